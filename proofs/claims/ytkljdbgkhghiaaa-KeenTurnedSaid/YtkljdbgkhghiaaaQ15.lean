/- A region whose end is stated once for all its orders; two lists of tests that grow side by side. KeenTurned: the walk. KeenTurned: the row. -/
import Derived.Test.YtkljdbgkhghiaaaP15
import Derived.Test.YtkljdbgkhghiaaaP27
import Derived.Test.YtkljdbgkhghiaaaP28
import Derived.Test.YtkljdbgkhghiaaaP29
import Derived.Test.YtkljdbgkhghiaaaP21
import Derived.Test.YtkljdbgkhghiaaaP26
import Derived.Test.YtkljdbgkhghiaaaP5
import Derived.Test.YtkljdbgkhghiaaaRows
set_option linter.all false
set_option linter.unnecessarySimpa false
set_option linter.unusedSimpArgs false
set_option linter.unusedVariables false
set_option linter.unusedSectionVars false

set_option linter.all false
namespace Go.Proofs.Ytkljdbgkhghiaaa
open Go.RowKit Kp

/-- Only the normal exit, and what holds there. -/
def OnlyN (R : Act → World → Prop) : Exit → Act → World → Prop
  | .normal, a, w => R a w
  | _, _, _ => False
theorem wp_cut {P : Program} {c : Code} {Q : Exit → Act → World → Prop} {a : Act} {w : World} (R : Act → Act → World → Prop) (h : c.wp P (OnlyN (R a)) a w) (h2 : ∀ a' w', R a a' w' → Q .normal a' w') : c.wp P Q a w :=
  Code.wp_mono (fun e a' w' hq => by cases e <;> first | exact h2 _ _ hq | exact (hq : False).elim) h

/-- Two lists of tests that grow, each in a block of its own. -/
def TwoT (X : World) (base : Nat) (v u : Value) (l m : List Kt) : Prop := OwnT X base v l ∧ OwnT X base u m ∧ ∀ g, v.ownBlock = some g → u.ownBlock ≠ some g
theorem TwoT.symm {X : World} {base : Nat} {v u : Value} {l m : List Kt} (h : TwoT X base v u l m) : TwoT X base u v m l := ⟨h.2.1, h.1, fun g hg hq => h.2.2 g hq hg⟩
theorem TwoT.below {X Y : World} {base : Nat} {v u : Value} {l m : List Kt} (h : TwoT X base v u l m) (hb : Below X.heap.size X Y) : TwoT Y base v u l m := ⟨own_below h.1 hb, own_below h.2.1 hb, h.2.2⟩
theorem TwoT.far {X : World} {base : Nat} {v u : Value} {l m : List Kt} (h : TwoT X base v u l m) {p : Addr} {cs : Array Value} (hp : BK X p.block cs 24) (x : Value) : TwoT (X.setCell p x) base v u l m := by
  have ne : ∀ {z : Value} {k : List Kt}, OwnT X base z k → z.ownBlock ≠ some p.block := fun {z k} hz hq => by
    obtain ⟨c, hc⟩ := own_block hz hq
    unfold BK at hp
    rw [hp] at hc
    injection hc with hc
    injection hc with _ hc
    exact absurd hc (by decide)
  exact ⟨own_far h.1 (ne h.1) x, own_far h.2.1 (ne h.2.1) x, h.2.2⟩
theorem TwoT.nil (X : World) (base : Nat) : TwoT X base (.slice none 0 0) (.slice none 0 0) [] [] := ⟨OwnT.nil X base, OwnT.nil X base, fun g hg => by cases hg⟩

theorem two_grow {W : World} {base g tn : Nat} {v u : Value} {l m : List Kt} {x : Kt} (h : TwoT W base v u l m) (hg : BK W g #[.int .i64 x.one, .int .i64 x.two, .int .i64 x.lo, .int .i64 x.hi] tn) (hn : l.length ≤ 100000) (hbase : base ≤ W.heap.size) :
    ∃ v' w2, (Builtin.append_ #[22, 22] 22 #[v, .slice (some ⟨g, 0, none⟩) 1 1]).run Try.prog W = .ok v' w2 ∧ TwoT w2 base v' u (l ++ [x]) m ∧ (∀ w0, Below base w0 W → Below base w0 w2) ∧ W.heap.size ≤ w2.heap.size ∧ (∀ k cs t, BK W k cs t → v.ownBlock ≠ some k → BK w2 k cs t) := by
  obtain ⟨h1, h2, h3⟩ := h
  obtain ⟨i0, hi0, hz0, hz1, hz2⟩ := info_parts kt_info
  obtain ⟨g', cap', w2, hrun, hown', hgr, hat⟩ := app1 (P := Try.prog) 22 22 56 i0 _ _ _ kt_slice hi0 hz0 hz1 hz2 rfl (by decide) (by decide) base W v l.length (ofG encT l) h1 g (encT x) tn hg rfl (by intro u hu; simp [encT] at hu; rcases hu with rfl | rfl | rfl | rfl <;> rfl) hn hbase
  refine ⟨_, w2, hrun, ⟨?_, ?_, ?_⟩, fun w0 hbw => Below.grown hbw hgr hbase fun k hk => (h1.lt k hk).1, hgr.size, ?_⟩
  · unfold OwnT
    rw [← ofG_app, List.length_append]
    exact hown'
  · refine h2.kept hgr ?_
    cases hu : u.ownBlock with
    | none => exact .inl rfl
    | some q => exact .inr fun hq => h3 q hq.symm hu
  · intro q hq hu
    rcases hat with hat | hat
    · have : q = g' := by simpa [Value.ownBlock] using hq.symm
      subst this
      exact h3 q hat hu
    · have : q = g' := by simpa [Value.ownBlock] using hq.symm
      subst this
      have := (h2.lt q hu).2
      omega
  · intro k cs t hk hte
    exact hk.grown hgr fun hq => hte hq.symm
theorem TwoT.ne {X : World} {base k : Nat} {v u : Value} {l m : List Kt} {cs : Array Value} (h : TwoT X base v u l m) (hk : BK X k cs 24) : v.ownBlock ≠ some k := fun hq => by
  obtain ⟨c, hc⟩ := own_block h.1 hq
  unfold BK at hk
  rw [hk] at hc
  injection hc with hc
  injection hc with _ hc
  exact absurd hc (by decide)
theorem TwoT.lt {X : World} {base : Nat} {v u : Value} {l m : List Kt} (h : TwoT X base v u l m) {k : Nat} (hk : X.heap.size ≤ k) : v.ownBlock ≠ some k := fun hq => by
  have := (h.1.lt k hq).2
  omega
end Go.Proofs.Ytkljdbgkhghiaaa

set_option linter.all false
namespace Go.Proofs.Ytkljdbgkhghiaaa
open Go.RowKit Kp

theorem take_one {l : List Kt} {k : Nat} (h : k < l.length) : l.take (k + 1) = l.take k ++ [nthT l k] := by
  have : nthT l k = l[k] := by simp [nthT, h]
  rw [this, List.take_add_one, List.getElem?_eq_getElem h]
  rfl
theorem turnX_take {l : List Kt} {k : Nat} (h : k < l.length) {o1 o2 lo hi : Int} (ht : nthT l k = ⟨o1, o2, lo, hi⟩) : turnX (l.take (k + 1)) = turnX (l.take k) ++ [⟨o1, o2, -hi, -lo⟩] := by
  rw [take_one h, ht]
  simp [turnX]
theorem turnY_take {l : List Kt} {k : Nat} (h : k < l.length) {o1 o2 lo hi : Int} (ht : nthT l k = ⟨o1, o2, lo, hi⟩) : turnY (l.take (k + 1)) = turnY (l.take k) ++ [⟨o2, o1, -hi, -lo⟩] := by
  rw [take_one h, ht]
  simp [turnY]
theorem map_take_one {l : List Int} {k : Nat} (h : k < l.length) : (l.take (k + 1)).map (fun x => 1000 - x) = (l.take k).map (fun x => 1000 - x) ++ [1000 - nthI l k] := by
  have : nthI l k = l[k] := by simp [nthI, h]
  rw [this, List.take_add_one, List.getElem?_eq_getElem h, List.map_append]
  rfl

set_option maxHeartbeats 8000000 in
set_option maxRecDepth 100000 in
theorem keenTurned_any (E : Int) (ts : List Kt) (v : Value) (l : List Int) (u : Value) (x2 y2 : Nat) (w : World) (h : RT w w.heap.size v ts) (hE : okI E) (hts : ∀ t ∈ ts, okT t) (hl : ts.length ≤ maxLen) (hu : RI w w.heap.size u l) (hul : ∀ x ∈ l, okI x) (hll : l.length ≤ maxLen) (h2 : x2 ≤ 255 ∧ y2 ≤ 255) :
    Calls Try.prog 15 #[.agg #[.int .i64 E, v], u, .agg #[.int .u8 x2, .int .u8 y2]] w fun x w' => x = .returned (.bool true) ∧ Below w.heap.size w w' := by
  obtain ⟨b, off, cap, A, rfl, hAx⟩ := h.slice
  clear hAx
  have hR := h
  clear h
  obtain ⟨n0, hn0⟩ : ∃ n, w.heap.size = n := ⟨_, rfl⟩
  have hC : Below n0 w w := Below.refl _ _
  obtain ⟨A_u, c_u, rfl⟩ : ∃ A q, u = .slice A l.length q := by
    obtain ⟨A, cp, b, off, hv, hl, hA, _⟩ := hu
    exact ⟨A, cp, hv⟩
  clear hul
  obtain ⟨h2x, h2y⟩ := h2
  clear hE hts
  go_enter Try.func15, Try.ntmps15
  go_wp2_with fail
  have hqbx : n0 ≤ n0 := by have := hC.size; omega
  have bx : BK (w.alloc (.cells #[.int .i64 E, .slice A ts.length cap] 24)) (n0) #[.int .i64 E, .slice A ts.length cap] 24 := BK.new' _ _ _ (n0) hn0
  have hsbx : (w.alloc (.cells #[.int .i64 E, .slice A ts.length cap] 24)).heap.size = n0 + 1 := by simp [hn0]
  replace hC : Below n0 w (w.alloc (.cells #[.int .i64 E, .slice A ts.length cap] 24)) := Below.alloc hC (by have := hC.size; omega) _
  replace hR := (RS.below hR (w' := (w.alloc (.cells #[.int .i64 E, .slice A ts.length cap] 24))) (Below.alloc (Below.refl _ _) (Nat.le_refl _) _)).more (B' := (w.alloc (.cells #[.int .i64 E, .slice A ts.length cap] 24)).heap.size) (by simp)
  replace hu := (RS.below hu (w' := (w.alloc (.cells #[.int .i64 E, .slice A ts.length cap] 24))) (Below.alloc (Below.refl _ _) (Nat.le_refl _) _)).more (B' := (w.alloc (.cells #[.int .i64 E, .slice A ts.length cap] 24)).heap.size) (by simp)
  generalize (w.alloc (.cells #[.int .i64 E, .slice A ts.length cap] 24)) = Wbx at *
  go_wp2_with fail
  have hqb2 : n0 ≤ n0 + 1 := by have := hC.size; omega
  have b2 : BK (Wbx.alloc (.cells #[.int .u8 x2, .int .u8 y2] 64)) (n0 + 1) #[.int .u8 x2, .int .u8 y2] 64 := BK.new' _ _ _ (n0 + 1) hsbx
  have hsb2 : (Wbx.alloc (.cells #[.int .u8 x2, .int .u8 y2] 64)).heap.size = n0 + 1 + 1 := by simp [hsbx]
  replace hC : Below n0 w (Wbx.alloc (.cells #[.int .u8 x2, .int .u8 y2] 64)) := Below.alloc hC (by have := hC.size; omega) _
  replace hR := (RS.below hR (w' := (Wbx.alloc (.cells #[.int .u8 x2, .int .u8 y2] 64))) (Below.alloc (Below.refl _ _) (Nat.le_refl _) _)).more (B' := (Wbx.alloc (.cells #[.int .u8 x2, .int .u8 y2] 64)).heap.size) (by simp)
  replace hu := (RS.below hu (w' := (Wbx.alloc (.cells #[.int .u8 x2, .int .u8 y2] 64))) (Below.alloc (Below.refl _ _) (Nat.le_refl _) _)).more (B' := (Wbx.alloc (.cells #[.int .u8 x2, .int .u8 y2] 64)).heap.size) (by simp)
  replace bx := bx.alloc (.cells #[.int .u8 x2, .int .u8 y2] 64)
  generalize (Wbx.alloc (.cells #[.int .u8 x2, .int .u8 y2] 64)) = Wb2 at *
  clear hsbx
  have lbx := bx.lt
  have bxc0 := bx.cell 0
  have bxc1 := bx.cell 1
  simp at bxc0 bxc1
  go_wp2_with fail
  clear lbx bxc0 bxc1
  clear hsb2
  refine (great_any E ts _ _ hl hR).mono ?_
  rintro e w1 ⟨rfl, hb⟩
  replace hC : Below n0 w w1 := hC.trans (hb.mono (by have := hC.size; omega))
  replace hR := (RS.below hR hb).more hb.size
  replace hu := (RS.below hu hb).more hb.size
  replace bx := bx.below hb bx.lt
  replace b2 := b2.below hb b2.lt
  clear hb
  by_cases h5 : 50 < ts.length
  case pos =>
    rw [decide_eq_true h5]
    clear h5
    go_wp2_with fail
    refine (works_any _).mono ?_
    rintro e w2 ⟨rfl, hb⟩
    replace hC : Below n0 w w2 := hC.trans (hb.mono (by have := hC.size; omega))
    replace hR := (RS.below hR hb).more hb.size
    replace hu := (RS.below hu hb).more hb.size
    replace bx := bx.below hb bx.lt
    replace b2 := b2.below hb b2.lt
    clear hb
    go_wp2_with fail
    exact bodyPost_ret (v := .bool true) (by simp [results, Try.results15, go_sem]) rfl ⟨rfl, by first | exact hC | (rw [hn0]; exact hC) | (with_reducible rw [hn0]; exact bel_of) | exact bel_of⟩
  rw [decide_eq_false h5]
  have hl50 : ts.length ≤ 50 := by omega
  clear h5
  have lbx := bx.lt
  have bxc0 := bx.cell 0
  have bxc1 := bx.cell 1
  simp at bxc0 bxc1
  go_wp2_with fail
  clear lbx bxc0 bxc1
  refine (refBook_any E ts _ _ (by omega) hR).mono ?_
  rintro e w2 ⟨rfl, hb⟩
  replace hC : Below n0 w w2 := hC.trans (hb.mono (by have := hC.size; omega))
  replace hR := (RS.below hR hb).more hb.size
  replace hu := (RS.below hu hb).more hb.size
  replace bx := bx.below hb bx.lt
  replace b2 := b2.below hb b2.lt
  clear hb
  obtain ⟨e, he⟩ : ∃ e, bookE E ts = e := ⟨_, rfl⟩
  rw [he]
  by_cases h0 : e = 0
  case neg =>
    have b1 : (e == 0) = false := by simp [h0]
    clear he
    go_wp2_with fail
    refine (works_any _).mono ?_
    rintro e w3 ⟨rfl, hb⟩
    replace hC : Below n0 w w3 := hC.trans (hb.mono (by have := hC.size; omega))
    replace hR := (RS.below hR hb).more hb.size
    replace hu := (RS.below hu hb).more hb.size
    replace bx := bx.below hb bx.lt
    replace b2 := b2.below hb b2.lt
    clear hb
    go_wp2_with fail
    exact bodyPost_ret (v := .bool true) (by simp [results, Try.results15, go_sem]) rfl ⟨rfl, by first | exact hC | (rw [hn0]; exact hC) | (with_reducible rw [hn0]; exact bel_of) | exact bel_of⟩
  subst h0
  obtain ⟨N, rfl, ho, hl40⟩ := bookE_ok he
  have hN1 := ho.pos
  have hN16 := ho.few
  have HO := Lib.hid ho
  have HBK := Lib.hid he
  clear ho he
  have lbx := bx.lt
  have bxc0 := bx.cell 0
  have bxc1 := bx.cell 1
  simp at bxc0 bxc1
  by_cases hN2 : N < 2
  case pos =>
    have h7 : (N : Int) < 2 := by omega
    go_wp2_with fail
    refine (works_any _).mono ?_
    rintro e w3 ⟨rfl, hb⟩
    replace hC : Below n0 w w3 := hC.trans (hb.mono (by have := hC.size; omega))
    replace hR := (RS.below hR hb).more hb.size
    replace hu := (RS.below hu hb).more hb.size
    replace bx := bx.below hb bx.lt
    replace b2 := b2.below hb b2.lt
    clear hb
    go_wp2_with fail
    exact bodyPost_ret (v := .bool true) (by simp [results, Try.results15, go_sem]) rfl ⟨rfl, by first | exact hC | (rw [hn0]; exact hC) | (with_reducible rw [hn0]; exact bel_of) | exact bel_of⟩
  have h7n : ¬ (N : Int) < 2 := by omega
  by_cases h6 : l.length > 30
  case pos =>
    have h7 : (l.length : Int) > 30 := by omega
    clear h6
    go_wp2_with fail
    refine (works_any _).mono ?_
    rintro e w3 ⟨rfl, hb⟩
    replace hC : Below n0 w w3 := hC.trans (hb.mono (by have := hC.size; omega))
    replace hR := (RS.below hR hb).more hb.size
    replace hu := (RS.below hu hb).more hb.size
    replace bx := bx.below hb bx.lt
    replace b2 := b2.below hb b2.lt
    clear hb
    go_wp2_with fail
    exact bodyPost_ret (v := .bool true) (by simp [results, Try.results15, go_sem]) rfl ⟨rfl, by first | exact hC | (rw [hn0]; exact hC) | (with_reducible rw [hn0]; exact bel_of) | exact bel_of⟩
  have hm_l : l.length ≤ 30 := by omega
  have h7_l : ¬ (l.length : Int) > 30 := by omega
  clear h6
  clear lbx bxc0 bxc1
  have lbx := bx.lt
  have bxc0 := bx.cell 0
  have bxc1 := bx.cell 1
  simp at bxc0 bxc1
  have lb2 := b2.lt
  have b2c0 := b2.cell 0
  have b2c1 := b2.cell 1
  simp at b2c0 b2c1
  obtain ⟨a, ha⟩ : ∃ a, x2 % N = a := ⟨_, rfl⟩
  obtain ⟨m, hm⟩ : ∃ m, y2 % (N - 1) = m := ⟨_, rfl⟩
  obtain ⟨z, hz⟩ : ∃ z, (a + 1 + m) % N = z := ⟨_, rfl⟩
  have haN : a < N := by rw [← ha]; exact Nat.mod_lt _ (by omega)
  have hmN : m < N - 1 := by rw [← hm]; exact Nat.mod_lt _ (by omega)
  have hzN : z < N := by rw [← hz]; exact Nat.mod_lt _ (by omega)
  have hne : a ≠ z := by rw [← hz]; exact (other_ne haN hmN).symm
  have e1 : (x2 : Int) % (N : Int) = (a : Int) := by rw [rem_nat, ha]
  have e2 : (y2 : Int) % ((N : Int) - 1) = (m : Int) := by rw [show (N : Int) - 1 = ((N - 1 : Nat) : Int) by omega, rem_nat, hm]
  have e3 : ((a : Int) + 1 + (m : Int)) % (N : Int) = (z : Int) := by rw [show (a : Int) + 1 + (m : Int) = ((a + 1 + m : Nat) : Int) by omega, rem_nat, hz]
  have t1 : (x2 : Int).tmod (N : Int) = (a : Int) := by rw [tmod_nat, ha]
  have t2 : (y2 : Int).tmod ((N : Int) - 1) = (m : Int) := by rw [show (N : Int) - 1 = ((N - 1 : Nat) : Int) by omega, tmod_nat, hm]
  have t3 : ((a : Int) + 1 + (m : Int)).tmod (N : Int) = (z : Int) := by rw [show (a : Int) + 1 + (m : Int) = ((a + 1 + m : Nat) : Int) by omega, tmod_nat, hz]
  have ye0 : ((N : Int) == 0) = false := beq_eq_false_iff_ne.2 (by omega)
  have ye1 : ((N : Int) - 1 == 0) = false := beq_eq_false_iff_ne.2 (by omega)
  have ye2 : (N : Int) ≠ 0 := by omega
  have ye3 : (N : Int) - 1 ≠ 0 := by omega
  have g1 : IntKind.i64.wrap (x2 : Int) = (x2 : Int) := by rw [IntKind.wrap_i64]; omega
  have g2 : IntKind.i64.wrap (y2 : Int) = (y2 : Int) := by rw [IntKind.wrap_i64]; omega
  have g3 : IntKind.i64.wrap (a : Int) = (a : Int) := by rw [IntKind.wrap_i64]; omega
  have g4 : IntKind.i64.wrap (m : Int) = (m : Int) := by rw [IntKind.wrap_i64]; omega
  have g5 : IntKind.i64.wrap (z : Int) = (z : Int) := by rw [IntKind.wrap_i64]; omega
  have g6 : IntKind.i64.wrap ((N : Int) - 1) = (N : Int) - 1 := by rw [IntKind.wrap_i64]; omega
  have g7 : IntKind.i64.wrap ((a : Int) + 1) = (a : Int) + 1 := by rw [IntKind.wrap_i64]; omega
  have g8 : IntKind.i64.wrap ((a : Int) + 1 + (m : Int)) = (a : Int) + 1 + (m : Int) := by rw [IntKind.wrap_i64]; omega
  clear ha hm hz
  go_upto_region 4 with fail
  go_quiet (fail)
  go_upto_region 5 with fail
  clear lbx bxc0 bxc1
  clear lb2 b2c0 b2c1
  clear e1 e2 e3 t1 t2 t3 ye0 ye1 ye2 ye3 g1 g2 g3 g4 g5 g6 g7 g8 h7_l h7n hN2
  have hb : Below w2.heap.size w2 (w2.drewN nq) := by exact bel_of
  replace hC : Below n0 w (w2.drewN nq) := hC.trans (hb.mono (by have := hC.size; omega))
  replace hR := (RS.below hR hb).more hb.size
  replace hu := (RS.below hu hb).more hb.size
  replace bx := bx.below hb bx.lt
  replace b2 := b2.below hb b2.lt
  clear hb
  generalize (w2.drewN nq) = WB at *
  have lbx := bx.lt
  have bxc0 := bx.cell 0
  have bxc1 := bx.cell 1
  simp at bxc0 bxc1
  refine wp_cut (fun a' a2 w2 => ∃ z1 z2 z3 z4 z5 z6 : Value, ∃ gxx gyy : Nat, a2 = ((((((((a'.put (some 62) z1).put (some 63) z2).put (some 64) z3).put (some 65) z4).put (some 66) z5).put (some 67) z6).put (some 9) (.pointer (some ⟨gxx, 0, none⟩))).put (some 10) (.pointer (some ⟨gyy, 0, none⟩))) ∧ BK w2 gxx #[.int .i64 N, .slice none 0 0] 24 ∧ BK w2 gyy #[.int .i64 N, .slice none 0 0] 24 ∧ gxx ≠ gyy ∧ WB.heap.size ≤ gxx ∧ WB.heap.size ≤ gyy ∧ Below WB.heap.size WB w2) ?_ ?_
  case refine_1 =>
    have d0y : Below WB.heap.size WB WB.drew := by exact bel_of
    refine wp_region_noPanic (plain_any [0, 1, 2, 3, 4, 5] (Below WB.heap.size WB) mixed ?_)
    (refine any_take 0 ?_ (by rfl) (by kernel_rfl) (fun _ _ _ _ _ hx => hx.elim) (.inl ⟨by rfl, ?_⟩) (by with_reducible assumption) ?_; rotate_left; (intro X hX; obtain ⟨r1, r2⟩ := Below.rules hX; clear hX; go_simp; rfl); simp only [List.getElem_toArray, List.getElem_cons_succ, List.getElem_cons_zero, Act.put, List.setIfInBounds_toArray, List.set_cons_succ, List.set_cons_zero])
    (refine any_take 1 ?_ (by rfl) (by kernel_rfl) (fun _ _ _ _ _ hx => hx.elim) (.inl ⟨by rfl, ?_⟩) (by with_reducible assumption) ?_; rotate_left; (intro X hX; obtain ⟨r1, r2⟩ := Below.rules hX; clear hX; go_simp; rfl); simp only [List.getElem_toArray, List.getElem_cons_succ, List.getElem_cons_zero, Act.put, List.setIfInBounds_toArray, List.set_cons_succ, List.set_cons_zero])
    (refine any_take 2 ?_ (by rfl) (by kernel_rfl) (fun _ _ _ _ _ hx => hx.elim) (.inl ⟨by rfl, ?_⟩) (by with_reducible assumption) ?_; rotate_left; (intro X hX; obtain ⟨r1, r2⟩ := Below.rules hX; clear hX; go_simp; rfl); simp only [List.getElem_toArray, List.getElem_cons_succ, List.getElem_cons_zero, Act.put, List.setIfInBounds_toArray, List.set_cons_succ, List.set_cons_zero])
    (refine any_take 3 ?_ (by rfl) (by kernel_rfl) (fun _ _ _ _ _ hx => hx.elim) (.inl ⟨by rfl, ?_⟩) (by with_reducible assumption) ?_; rotate_left; (intro X hX; obtain ⟨r1, r2⟩ := Below.rules hX; clear hX; go_simp; rfl); simp only [List.getElem_toArray, List.getElem_cons_succ, List.getElem_cons_zero, Act.put, List.setIfInBounds_toArray, List.set_cons_succ, List.set_cons_zero])
    (refine any_take 4 ?_ (by rfl) (by kernel_rfl) (fun _ _ _ _ _ hx => hx.elim) (.inl ⟨by rfl, ?_⟩) (by with_reducible assumption) ?_; rotate_left; (intro X hX; obtain ⟨r1, r2⟩ := Below.rules hX; clear hX; go_simp; rfl); simp only [List.getElem_toArray, List.getElem_cons_succ, List.getElem_cons_zero, Act.put, List.setIfInBounds_toArray, List.set_cons_succ, List.set_cons_zero])
    (refine any_take 5 ?_ (by rfl) (by kernel_rfl) (fun _ _ _ _ _ hx => hx.elim) (.inl ⟨by rfl, ?_⟩) (by with_reducible assumption) ?_; rotate_left; (intro X hX; obtain ⟨r1, r2⟩ := Below.rules hX; clear hX; go_simp; rfl); simp only [List.getElem_toArray, List.getElem_cons_succ, List.getElem_cons_zero, Act.put, List.setIfInBounds_toArray, List.set_cons_succ, List.set_cons_zero])
    have dy1 : Below WB.heap.size WB WB.drew := by exact bel_of
    have hdr : Below WB.heap.size WB WB.drew := Below.drew (Below.refl _ _)
    clear hdr
    generalize WB.drew = uy2 at *
    refine any_run2 (i := 6) (j := 7) (by kernel_rfl) (by rfl) (by rfl) (by rfl) (by rfl) ?_ ?_
    ·skip
     intro K hK
     have qy4 := dy1.size
     have ey3 : Below WB.heap.size WB (uy2.alloc (.cells #[.int .i64 0, .slice none 0 0] 24)) := Below.alloc dy1 dy1.size _
     have hnx : Below uy2.heap.size uy2 (uy2.alloc (.cells #[.int .i64 0, .slice none 0 0] 24)) := Below.alloc (Below.refl _ _) (Nat.le_refl _) _
     go_wp2_with fail
     have xx : BK (uy2.alloc (.cells #[.int .i64 0, .slice none 0 0] 24)) uy2.heap.size #[.int .i64 0, .slice none 0 0] 24 := BK.new _ _ _
     refine hK _ _ (fun _ => ey3) ?_
     clear hK K hnx
     generalize (uy2.alloc (.cells #[.int .i64 0, .slice none 0 0] 24)) = vy5 at *
     obtain ⟨gxx, hgxx⟩ : ∃ g, uy2.heap.size = g := ⟨_, rfl⟩
     have hqxx : WB.heap.size ≤ gxx := by omega
     rw [hgxx] at xx
     try rw [hgxx]
     clear hgxx
     refine any_run1 (i := 7) (by kernel_rfl) (by rfl) (by kernel_rfl) ?_
     intro K hK
     have qy7 := ey3.size
     have ey6 : Below WB.heap.size WB (vy5.alloc (.cells #[.int .i64 0, .slice none 0 0] 24)) := Below.alloc ey3 ey3.size _
     have hnx : Below vy5.heap.size vy5 (vy5.alloc (.cells #[.int .i64 0, .slice none 0 0] 24)) := Below.alloc (Below.refl _ _) (Nat.le_refl _) _
     go_wp2_with fail
     have nexxyy : gxx ≠ vy5.heap.size := Nat.ne_of_lt xx.lt
     replace xx := xx.below hnx xx.lt
     have yy : BK (vy5.alloc (.cells #[.int .i64 0, .slice none 0 0] 24)) vy5.heap.size #[.int .i64 0, .slice none 0 0] 24 := BK.new _ _ _
     refine hK _ _ (fun _ => ey6) ?_
     clear hK K hnx
     generalize (vy5.alloc (.cells #[.int .i64 0, .slice none 0 0] 24)) = vy8 at *
     obtain ⟨gyy, hgyy⟩ : ∃ g, vy5.heap.size = g := ⟨_, rfl⟩
     have hqyy : WB.heap.size ≤ gyy := by omega
     rw [hgyy] at yy nexxyy
     try rw [hgyy]
     clear hgyy
     refine any_run1 (i := 8) (by kernel_rfl) (by rfl) (by kernel_rfl) ?_
     intro K hK
     have ey10 : Below WB.heap.size WB ((vy8.setCell ⟨gxx, 0, none⟩ (.int .i64 N)).setCell ⟨gxx, 1, none⟩ (.slice none 0 0)) := Below.setCell (Below.setCell ey6 (by show WB.heap.size ≤ gxx; omega) _) (by show WB.heap.size ≤ gxx; omega) _
     have l := xx.lt
     have c0 := xx.cell 0
     have c1 := xx.cell 1
     simp at c0 c1
     have f0 := xx.frozen 0
     have f1 := xx.frozen 1
     go_wp2_with fail
     refine hK _ _ (fun _ => ey10) ?_
     clear hK K l c0 c1 f0 f1
     have xx_ := (xx.set 0 (.int .i64 N)).set 1 (.slice none 0 0)
     simp at xx_
     have yy_ := (yy.far (p := ⟨gxx, 0, none⟩) (by show gyy ≠ gxx; omega) (.int .i64 N)).far (p := ⟨gxx, 1, none⟩) (by show gyy ≠ gxx; omega) (.slice none 0 0)
     clear xx yy
     have xx := xx_
     have yy := yy_
     clear xx_ yy_
     generalize ((vy8.setCell ⟨gxx, 0, none⟩ (.int .i64 N)).setCell ⟨gxx, 1, none⟩ (.slice none 0 0)) = vy9 at *
     refine any_run1 (i := 9) (by kernel_rfl) (by rfl) (by kernel_rfl) ?_
     intro K hK
     have ey12 : Below WB.heap.size WB ((vy9.setCell ⟨gyy, 0, none⟩ (.int .i64 N)).setCell ⟨gyy, 1, none⟩ (.slice none 0 0)) := Below.setCell (Below.setCell ey10 (by show WB.heap.size ≤ gyy; omega) _) (by show WB.heap.size ≤ gyy; omega) _
     have l := yy.lt
     have c0 := yy.cell 0
     have c1 := yy.cell 1
     simp at c0 c1
     have f0 := yy.frozen 0
     have f1 := yy.frozen 1
     go_wp2_with fail
     refine hK _ _ (fun _ => ey12) ?_
     clear hK K l c0 c1 f0 f1
     have yy_ := (yy.set 0 (.int .i64 N)).set 1 (.slice none 0 0)
     simp at yy_
     have xx_ := (xx.far (p := ⟨gyy, 0, none⟩) (by show gxx ≠ gyy; omega) (.int .i64 N)).far (p := ⟨gyy, 1, none⟩) (by show gxx ≠ gyy; omega) (.slice none 0 0)
     clear yy xx
     have yy := yy_
     have xx := xx_
     clear yy_ xx_
     generalize ((vy9.setCell ⟨gyy, 0, none⟩ (.int .i64 N)).setCell ⟨gyy, 1, none⟩ (.slice none 0 0)) = vy11 at *
     refine any_done (by kernel_rfl) (NoPanic.normal ?_)
     exact ⟨_, _, _, _, _, _, gxx, gyy, rfl, xx, yy, by omega, by omega, by omega, ey12⟩
    ·skip
     intro K hK
     have qy14 := dy1.size
     have ey13 : Below WB.heap.size WB (uy2.alloc (.cells #[.int .i64 0, .slice none 0 0] 24)) := Below.alloc dy1 dy1.size _
     have hnx : Below uy2.heap.size uy2 (uy2.alloc (.cells #[.int .i64 0, .slice none 0 0] 24)) := Below.alloc (Below.refl _ _) (Nat.le_refl _) _
     go_wp2_with fail
     have yy : BK (uy2.alloc (.cells #[.int .i64 0, .slice none 0 0] 24)) uy2.heap.size #[.int .i64 0, .slice none 0 0] 24 := BK.new _ _ _
     refine hK _ _ (fun _ => ey13) ?_
     clear hK K hnx
     generalize (uy2.alloc (.cells #[.int .i64 0, .slice none 0 0] 24)) = vy15 at *
     obtain ⟨gyy, hgyy⟩ : ∃ g, uy2.heap.size = g := ⟨_, rfl⟩
     have hqyy : WB.heap.size ≤ gyy := by omega
     rw [hgyy] at yy
     try rw [hgyy]
     clear hgyy
     refine any_run1 (i := 6) (by kernel_rfl) (by rfl) (by kernel_rfl) ?_
     intro K hK
     have qy17 := ey13.size
     have ey16 : Below WB.heap.size WB (vy15.alloc (.cells #[.int .i64 0, .slice none 0 0] 24)) := Below.alloc ey13 ey13.size _
     have hnx : Below vy15.heap.size vy15 (vy15.alloc (.cells #[.int .i64 0, .slice none 0 0] 24)) := Below.alloc (Below.refl _ _) (Nat.le_refl _) _
     go_wp2_with fail
     have neyyxx : gyy ≠ vy15.heap.size := Nat.ne_of_lt yy.lt
     replace yy := yy.below hnx yy.lt
     have xx : BK (vy15.alloc (.cells #[.int .i64 0, .slice none 0 0] 24)) vy15.heap.size #[.int .i64 0, .slice none 0 0] 24 := BK.new _ _ _
     refine hK _ _ (fun _ => ey16) ?_
     clear hK K hnx
     generalize (vy15.alloc (.cells #[.int .i64 0, .slice none 0 0] 24)) = vy18 at *
     obtain ⟨gxx, hgxx⟩ : ∃ g, vy15.heap.size = g := ⟨_, rfl⟩
     have hqxx : WB.heap.size ≤ gxx := by omega
     rw [hgxx] at xx neyyxx
     try rw [hgxx]
     clear hgxx
     refine any_run1 (i := 8) (by kernel_rfl) (by rfl) (by kernel_rfl) ?_
     intro K hK
     have ey20 : Below WB.heap.size WB ((vy18.setCell ⟨gxx, 0, none⟩ (.int .i64 N)).setCell ⟨gxx, 1, none⟩ (.slice none 0 0)) := Below.setCell (Below.setCell ey16 (by show WB.heap.size ≤ gxx; omega) _) (by show WB.heap.size ≤ gxx; omega) _
     have l := xx.lt
     have c0 := xx.cell 0
     have c1 := xx.cell 1
     simp at c0 c1
     have f0 := xx.frozen 0
     have f1 := xx.frozen 1
     go_wp2_with fail
     refine hK _ _ (fun _ => ey20) ?_
     clear hK K l c0 c1 f0 f1
     have xx_ := (xx.set 0 (.int .i64 N)).set 1 (.slice none 0 0)
     simp at xx_
     have yy_ := (yy.far (p := ⟨gxx, 0, none⟩) (by show gyy ≠ gxx; omega) (.int .i64 N)).far (p := ⟨gxx, 1, none⟩) (by show gyy ≠ gxx; omega) (.slice none 0 0)
     clear xx yy
     have xx := xx_
     have yy := yy_
     clear xx_ yy_
     generalize ((vy18.setCell ⟨gxx, 0, none⟩ (.int .i64 N)).setCell ⟨gxx, 1, none⟩ (.slice none 0 0)) = vy19 at *
     refine any_run1 (i := 9) (by kernel_rfl) (by rfl) (by kernel_rfl) ?_
     intro K hK
     have ey22 : Below WB.heap.size WB ((vy19.setCell ⟨gyy, 0, none⟩ (.int .i64 N)).setCell ⟨gyy, 1, none⟩ (.slice none 0 0)) := Below.setCell (Below.setCell ey20 (by show WB.heap.size ≤ gyy; omega) _) (by show WB.heap.size ≤ gyy; omega) _
     have l := yy.lt
     have c0 := yy.cell 0
     have c1 := yy.cell 1
     simp at c0 c1
     have f0 := yy.frozen 0
     have f1 := yy.frozen 1
     go_wp2_with fail
     refine hK _ _ (fun _ => ey22) ?_
     clear hK K l c0 c1 f0 f1
     have yy_ := (yy.set 0 (.int .i64 N)).set 1 (.slice none 0 0)
     simp at yy_
     have xx_ := (xx.far (p := ⟨gyy, 0, none⟩) (by show gxx ≠ gyy; omega) (.int .i64 N)).far (p := ⟨gyy, 1, none⟩) (by show gxx ≠ gyy; omega) (.slice none 0 0)
     clear yy xx
     have yy := yy_
     have xx := xx_
     clear yy_ xx_
     generalize ((vy19.setCell ⟨gyy, 0, none⟩ (.int .i64 N)).setCell ⟨gyy, 1, none⟩ (.slice none 0 0)) = vy21 at *
     refine any_done (by kernel_rfl) (NoPanic.normal ?_)
     exact ⟨_, _, _, _, _, _, gxx, gyy, rfl, xx, yy, by omega, by omega, by omega, ey22⟩
  clear lbx bxc0 bxc1
  rintro a2 w2 ⟨z1, z2, z3, z4, z5, z6, gxx, gyy, rfl, xx, yy, hxy, hxb, hyb, hD⟩
  simp only [Act.put, List.setIfInBounds_toArray, List.set_cons_succ, List.set_cons_zero]
  have htwo := TwoT.nil w2 WB.heap.size
  go_wp2_with fail
  go_loopw [11] (fun i wr => ∃ k : Nat, k ≤ ts.length ∧ i = .int .i64 k ∧ ∃ vx vy : Value, BK wr gxx #[.int .i64 N, vx] 24 ∧ BK wr gyy #[.int .i64 N, vy] 24 ∧ TwoT wr WB.heap.size vx vy (turnX (ts.take k)) (turnY (ts.take k)) ∧ Below WB.heap.size WB wr) (fun i _ => ts.length - (intOf i).toNat)
  case atStart => exact ⟨0, Nat.zero_le _, rfl, _, _, xx, yy, by simpa [turnX, turnY] using htwo, hD⟩
  case round =>
    clear xx yy htwo hD
    obtain ⟨k, hk, rfl, vx, vy, xx, yy, two, hD⟩ := hrel
    have hb := hD
    replace hC : Below n0 w wr := hC.trans (hb.mono (by have := hC.size; omega))
    replace hR := (RS.below hR hb).more hb.size
    replace hu := (RS.below hu hb).more hb.size
    replace bx := bx.below hb bx.lt
    replace b2 := b2.below hb b2.lt
    clear hb
    by_cases hlt : k < ts.length
    case pos =>
      have hlt' : (k : Int) < (ts.length : Int) := by omega
      obtain ⟨Ax, cx, bb, off, hve, hAx, hcx⟩ := RT.cells hR
      obtain ⟨rfl, hbb⟩ := hAx (by omega)
      injection hve with q1 q2 q3
      subst q1 q3
      obtain ⟨c0, c1, c2, c3⟩ := hcx k hlt
      have htok := HO.out.tst _ (nthT_mem hlt)
      obtain ⟨⟨o1, o2, lo, hi⟩, hqt⟩ : ∃ t, nthT ts k = t := ⟨_, rfl⟩
      have HTX := Lib.hid (turnX_take hlt hqt)
      have HTY := Lib.hid (turnY_take hlt hqt)
      rw [hqt] at c0 c1 c2 c3 htok
      dsimp only at c0 c1 c2 c3 htok
      obtain ⟨_, _, _, _, _, k5, k6, k7⟩ := htok
      have wl : IntKind.i64.wrap (-lo) = -lo := by rw [IntKind.wrap_i64]; omega
      have wh : IntKind.i64.wrap (-hi) = -hi := by rw [IntKind.wrap_i64]; omega
      clear hAx hcx q2 hqt k5 k6 k7
      have nxx := TwoT.lt two (Nat.le_refl _)
      have nyy := TwoT.lt two.symm (Nat.le_refl _)
      have lbx := bx.lt
      have bxc0 := bx.cell 0
      have bxc1 := bx.cell 1
      simp at bxc0 bxc1
      go_upto_region 10 with fail
      clear lbx bxc0 bxc1
      clear c0 c1 c2 c3
      obtain ⟨m1, hm1⟩ : ∃ n, wr.heap.size = n := ⟨_, rfl⟩
      try rw [hm1]
      have hqbt : n0 ≤ m1 := by have := hC.size; omega
      have bt : BK (wr.alloc (.cells #[.int .i64 o1, .int .i64 o2, .int .i64 lo, .int .i64 hi] 56)) (m1) #[.int .i64 o1, .int .i64 o2, .int .i64 lo, .int .i64 hi] 56 := BK.new' _ _ _ (m1) hm1
      have hsbt : (wr.alloc (.cells #[.int .i64 o1, .int .i64 o2, .int .i64 lo, .int .i64 hi] 56)).heap.size = m1 + 1 := by simp [hm1]
      rw [hm1] at nxx nyy
      have lgx : gxx < m1 := by have := xx.lt; omega
      have lgy : gyy < m1 := by have := yy.lt; omega
      replace hC : Below n0 w (wr.alloc (.cells #[.int .i64 o1, .int .i64 o2, .int .i64 lo, .int .i64 hi] 56)) := Below.alloc hC (by have := hC.size; omega) _
      replace hR := (RS.below hR (w' := (wr.alloc (.cells #[.int .i64 o1, .int .i64 o2, .int .i64 lo, .int .i64 hi] 56))) (Below.alloc (Below.refl _ _) (Nat.le_refl _) _)).more (B' := (wr.alloc (.cells #[.int .i64 o1, .int .i64 o2, .int .i64 lo, .int .i64 hi] 56)).heap.size) (by simp)
      replace hu := (RS.below hu (w' := (wr.alloc (.cells #[.int .i64 o1, .int .i64 o2, .int .i64 lo, .int .i64 hi] 56))) (Below.alloc (Below.refl _ _) (Nat.le_refl _) _)).more (B' := (wr.alloc (.cells #[.int .i64 o1, .int .i64 o2, .int .i64 lo, .int .i64 hi] 56)).heap.size) (by simp)
      replace bx := bx.alloc (.cells #[.int .i64 o1, .int .i64 o2, .int .i64 lo, .int .i64 hi] 56)
      replace b2 := b2.alloc (.cells #[.int .i64 o1, .int .i64 o2, .int .i64 lo, .int .i64 hi] 56)
      replace xx := xx.alloc (.cells #[.int .i64 o1, .int .i64 o2, .int .i64 lo, .int .i64 hi] 56)
      replace yy := yy.alloc (.cells #[.int .i64 o1, .int .i64 o2, .int .i64 lo, .int .i64 hi] 56)
      replace two := TwoT.below two (Y := (wr.alloc (.cells #[.int .i64 o1, .int .i64 o2, .int .i64 lo, .int .i64 hi] 56))) (Below.alloc (Below.refl _ _) (Nat.le_refl _) _)
      replace hD := hD.trans ((Below.alloc (Below.refl _ _) (Nat.le_refl _) _ : Below _ _ (wr.alloc (.cells #[.int .i64 o1, .int .i64 o2, .int .i64 lo, .int .i64 hi] 56))).mono hD.size)
      generalize (wr.alloc (.cells #[.int .i64 o1, .int .i64 o2, .int .i64 lo, .int .i64 hi] 56)) = Wbt at *
      clear hm1
      have lbt := bt.lt
      have btc0 := bt.cell 0
      have btc1 := bt.cell 1
      have btc2 := bt.cell 2
      have btc3 := bt.cell 3
      simp at btc0 btc1 btc2 btc3
      have lxx := xx.lt
      have xxc0 := xx.cell 0
      have xxc1 := xx.cell 1
      simp at xxc0 xxc1
      go_upto_region 10 with fail
      refine wp_region_noPanic (plain_any [0, 1, 2, 3, 4, 5, 6, 7, 8, 9, 10, 11, 12, 13] (Below Wbt.heap.size Wbt) mixed ?_)
      (refine any_take 0 ?_ (by rfl) (by kernel_rfl) (fun _ _ _ _ _ hx => hx.elim) (.inl ⟨by rfl, ?_⟩) (by exact bel_of) ?_; rotate_left; (intro X hX; obtain ⟨r1, r2⟩ := Below.rules hX; clear hX; go_simp; rfl); simp only [List.getElem_toArray, List.getElem_cons_succ, List.getElem_cons_zero, Act.put, List.setIfInBounds_toArray, List.set_cons_succ, List.set_cons_zero])
      (refine any_take 1 ?_ (by rfl) (by kernel_rfl) (fun _ _ _ _ _ hx => hx.elim) (.inl ⟨by rfl, ?_⟩) (by exact bel_of) ?_; rotate_left; (intro X hX; obtain ⟨r1, r2⟩ := Below.rules hX; clear hX; go_simp; rfl); simp only [List.getElem_toArray, List.getElem_cons_succ, List.getElem_cons_zero, Act.put, List.setIfInBounds_toArray, List.set_cons_succ, List.set_cons_zero])
      (refine any_take 2 ?_ (by rfl) (by kernel_rfl) (fun _ _ _ _ _ hx => hx.elim) (.inl ⟨by rfl, ?_⟩) (by exact bel_of) ?_; rotate_left; (intro X hX; obtain ⟨r1, r2⟩ := Below.rules hX; clear hX; go_simp; rfl); simp only [List.getElem_toArray, List.getElem_cons_succ, List.getElem_cons_zero, Act.put, List.setIfInBounds_toArray, List.set_cons_succ, List.set_cons_zero])
      (refine any_take 3 ?_ (by rfl) (by kernel_rfl) (fun _ _ _ _ _ hx => hx.elim) (.inl ⟨by rfl, ?_⟩) (by exact bel_of) ?_; rotate_left; (intro X hX; obtain ⟨r1, r2⟩ := Below.rules hX; clear hX; go_simp; rfl); simp only [List.getElem_toArray, List.getElem_cons_succ, List.getElem_cons_zero, Act.put, List.setIfInBounds_toArray, List.set_cons_succ, List.set_cons_zero])
      (refine any_take 4 ?_ (by rfl) (by kernel_rfl) (fun _ _ _ _ _ hx => hx.elim) (.inl ⟨by rfl, ?_⟩) (by exact bel_of) ?_; rotate_left; (intro X hX; obtain ⟨r1, r2⟩ := Below.rules hX; clear hX; go_simp; rfl); simp only [List.getElem_toArray, List.getElem_cons_succ, List.getElem_cons_zero, Act.put, List.setIfInBounds_toArray, List.set_cons_succ, List.set_cons_zero])
      (refine any_take 5 ?_ (by rfl) (by kernel_rfl) (fun _ _ _ _ _ hx => hx.elim) (.inl ⟨by rfl, ?_⟩) (by exact bel_of) ?_; rotate_left; (intro X hX; obtain ⟨r1, r2⟩ := Below.rules hX; clear hX; go_simp; rfl); simp only [List.getElem_toArray, List.getElem_cons_succ, List.getElem_cons_zero, Act.put, List.setIfInBounds_toArray, List.set_cons_succ, List.set_cons_zero])
      (refine any_take 6 ?_ (by rfl) (by kernel_rfl) (fun _ _ _ _ _ hx => hx.elim) (.inl ⟨by rfl, ?_⟩) (by exact bel_of) ?_; rotate_left; (intro X hX; obtain ⟨r1, r2⟩ := Below.rules hX; clear hX; go_simp; rfl); simp only [List.getElem_toArray, List.getElem_cons_succ, List.getElem_cons_zero, Act.put, List.setIfInBounds_toArray, List.set_cons_succ, List.set_cons_zero])
      (refine any_take 7 ?_ (by rfl) (by kernel_rfl) (fun _ _ _ _ _ hx => hx.elim) (.inl ⟨by rfl, ?_⟩) (by exact bel_of) ?_; rotate_left; (intro X hX; obtain ⟨r1, r2⟩ := Below.rules hX; clear hX; go_simp; rfl); simp only [List.getElem_toArray, List.getElem_cons_succ, List.getElem_cons_zero, Act.put, List.setIfInBounds_toArray, List.set_cons_succ, List.set_cons_zero])
      (refine any_take 8 ?_ (by rfl) (by kernel_rfl) (fun _ _ _ _ _ hx => hx.elim) (.inl ⟨by rfl, ?_⟩) (by exact bel_of) ?_; rotate_left; (intro X hX; obtain ⟨r1, r2⟩ := Below.rules hX; clear hX; go_simp; rfl); simp only [List.getElem_toArray, List.getElem_cons_succ, List.getElem_cons_zero, Act.put, List.setIfInBounds_toArray, List.set_cons_succ, List.set_cons_zero])
      (refine any_take 9 ?_ (by rfl) (by kernel_rfl) (fun _ _ _ _ _ hx => hx.elim) (.inl ⟨by rfl, ?_⟩) (by exact bel_of) ?_; rotate_left; (intro X hX; obtain ⟨r1, r2⟩ := Below.rules hX; clear hX; go_simp; rfl); simp only [List.getElem_toArray, List.getElem_cons_succ, List.getElem_cons_zero, Act.put, List.setIfInBounds_toArray, List.set_cons_succ, List.set_cons_zero])
      (refine any_take 10 ?_ (by rfl) (by kernel_rfl) (fun _ _ _ _ _ hx => hx.elim) (.inl ⟨by rfl, ?_⟩) (by exact bel_of) ?_; rotate_left; (intro X hX; obtain ⟨r1, r2⟩ := Below.rules hX; clear hX; go_simp; rfl); simp only [List.getElem_toArray, List.getElem_cons_succ, List.getElem_cons_zero, Act.put, List.setIfInBounds_toArray, List.set_cons_succ, List.set_cons_zero])
      (refine any_take 11 ?_ (by rfl) (by kernel_rfl) (fun _ _ _ _ _ hx => hx.elim) (.inl ⟨by rfl, ?_⟩) (by exact bel_of) ?_; rotate_left; (intro X hX; obtain ⟨r1, r2⟩ := Below.rules hX; clear hX; go_simp; rfl); simp only [List.getElem_toArray, List.getElem_cons_succ, List.getElem_cons_zero, Act.put, List.setIfInBounds_toArray, List.set_cons_succ, List.set_cons_zero])
      (refine any_take 12 ?_ (by rfl) (by kernel_rfl) (fun _ _ _ _ _ hx => hx.elim) (.inl ⟨by rfl, ?_⟩) (by exact bel_of) ?_; rotate_left; (intro X hX; obtain ⟨r1, r2⟩ := Below.rules hX; clear hX; go_simp; rfl); simp only [List.getElem_toArray, List.getElem_cons_succ, List.getElem_cons_zero, Act.put, List.setIfInBounds_toArray, List.set_cons_succ, List.set_cons_zero])
      (refine any_take 13 ?_ (by rfl) (by kernel_rfl) (fun _ _ _ _ _ hx => hx.elim) (.inl ⟨by rfl, ?_⟩) (by exact bel_of) ?_; rotate_left; (intro X hX; obtain ⟨r1, r2⟩ := Below.rules hX; clear hX; go_simp; rfl); simp only [List.getElem_toArray, List.getElem_cons_succ, List.getElem_cons_zero, Act.put, List.setIfInBounds_toArray, List.set_cons_succ, List.set_cons_zero])
      have hd0p : Below Wbt.heap.size Wbt (Wbt.drew) := by exact bel_of
      refine any_run1 (i := 14) (by kernel_rfl) (by rfl) (by kernel_rfl) ?_
      intro K3 hK3
      go_wp2_with fail
      refine (test_any o1 o2 (-hi) (-lo) _).mono ?_
      rintro e Vp ⟨rfl, hb1⟩
      unfold tV
      have hb01 : Below Wbt.heap.size Wbt Vp := hd0p.trans (hb1.mono hd0p.size)
      refine hK3 _ _ (fun _ => hb01) ?_
      clear hK3 K3 hb1
      refine any_run1 (i := 15) (by kernel_rfl) (by rfl) (by kernel_rfl) ?_
      intro K3 hK3
      go_wp2_with fail
      obtain ⟨gv, hgv⟩ : ∃ n, Vp.heap.size = n := ⟨_, rfl⟩
      have bX : BK (Vp.alloc (.cells #[.int .i64 o1, .int .i64 o2, .int .i64 (-hi), .int .i64 (-lo)] 56)) gv #[.int .i64 o1, .int .i64 o2, .int .i64 (-hi), .int .i64 (-lo)] 56 := BK.new' _ _ _ gv hgv
      have hbX : Below Vp.heap.size Vp (Vp.alloc (.cells #[.int .i64 o1, .int .i64 o2, .int .i64 (-hi), .int .i64 (-lo)] 56)) := Below.alloc (Below.refl _ _) (Nat.le_refl _) _
      have hb0X := hb01.trans (hbX.mono hb01.size)
      refine hK3 _ _ (fun _ => hb0X) ?_
      clear hK3 K3
      try rw [hgv]
      have hbase : WB.heap.size ≤ (Vp.alloc (.cells #[.int .i64 o1, .int .i64 o2, .int .i64 (-hi), .int .i64 (-lo)] 56)).heap.size := by have := hD.size; have := hb0X.size; omega
      obtain ⟨vp, w9p, hrun, two9, hbel, hsz9, hkeep⟩ := two_grow (x := ⟨o1, o2, -hi, -lo⟩) (TwoT.below two hb0X) bX (by first | (simp [turnX, turnY]; done) | (simp [turnX, turnY]; omega)) hbase
      obtain ⟨Ap, np, cp, hvp⟩ : ∃ A n c, vp = Value.slice A n c := by
        obtain ⟨A, c, h⟩ := own_slice two9.1
        exact ⟨A, _, c, h⟩
      subst hvp
      have xx9 := hkeep _ _ _ (xx.below hb0X xx.lt) (TwoT.ne (TwoT.below two hb0X) (xx.below hb0X xx.lt))
      have yy9 := hkeep _ _ _ (yy.below hb0X yy.lt) (TwoT.ne (TwoT.below two hb0X) (yy.below hb0X yy.lt))
      have bt9 := hkeep _ _ _ (bt.below hb0X bt.lt) nxx
      have hD9 : Below WB.heap.size WB w9p := hbel _ (hD.trans (hb0X.mono hD.size))
      have HRUN := Lib.hid hrun
      clear hgv hrun hbel hkeep bX hb0X hbX hb01 hd0p hsz9 hbase
      generalize Vp.alloc (.cells #[.int .i64 o1, .int .i64 o2, .int .i64 (-hi), .int .i64 (-lo)] 56) = VXp at *
      refine any_run1 (i := 16) (by kernel_rfl) (by rfl) (by kernel_rfl) ?_
      intro K3 hK3
      refine wp_append_run (.tmp 81) (.tmp 95) 22 _ rfl HRUN.out ?_
      refine hK3 _ _ (fun hx => (Bool.false_ne_true (hx.symm.trans (by kernel_rfl))).elim) ?_
      clear hK3 K3 HRUN
      simp only [List.getElem_toArray, List.getElem_cons_succ, List.getElem_cons_zero, Act.put, List.setIfInBounds_toArray, List.set_cons_succ, List.set_cons_zero]
      clear lbt btc0 btc1 btc2 btc3
      clear lxx xxc0 xxc1
      have lb := xx9.lt
      have y0 := xx9.cell 0
      have y1 := xx9.cell 1
      have f1 := xx9.frozen 1
      simp at y0 y1
      refine any_run1 (i := 17) (by kernel_rfl) (by rfl) (by kernel_rfl) ?_
      intro K3 hK3
      go_wp2_with fail
      refine hK3 _ _ (fun hx => (Bool.false_ne_true (hx.symm.trans (by kernel_rfl))).elim) ?_
      clear hK3 K3
      refine any_run1 (i := 18) (by kernel_rfl) (by rfl) (by kernel_rfl) ?_
      intro K3 hK3
      go_wp2_with fail
      refine hK3 _ _ (fun hx => (Bool.false_ne_true (hx.symm.trans (by kernel_rfl))).elim) ?_
      clear hK3 K3
      refine any_done (by kernel_rfl) (NoPanic.normal ?_)
      clear y0 y1 f1 lb
      have xxA : BK (w9p.setCell ⟨gxx, 1, none⟩ (.slice Ap np cp)) gxx #[.int .i64 N, .slice Ap np cp] 24 := by simpa using xx9.set 1 (.slice Ap np cp)
      have yyA := yy9.far (p := ⟨gxx, 1, none⟩) (by show gyy ≠ gxx; omega) (.slice Ap np cp)
      have btA := bt9.far (p := ⟨gxx, 1, none⟩) (by show m1 ≠ gxx; omega) (.slice Ap np cp)
      have twoA := TwoT.far two9 (p := ⟨gxx, 1, none⟩) xx9 (.slice Ap np cp)
      have hDA : Below WB.heap.size WB (w9p.setCell ⟨gxx, 1, none⟩ (.slice Ap np cp)) := Below.setCell hD9 (by show WB.heap.size ≤ gxx; omega) _
      clear xx9 yy9 bt9 two9 hD9 xx yy bt two hD
      generalize w9p.setCell ⟨gxx, 1, none⟩ (.slice Ap np cp) = WAp at *
      have xx := xxA
      have yy := yyA
      have bt := btA
      have two2 := twoA.symm
      have hD := hDA
      clear xxA yyA btA twoA hDA
      have lbt := bt.lt
      have btc0 := bt.cell 0
      have btc1 := bt.cell 1
      have btc2 := bt.cell 2
      have btc3 := bt.cell 3
      simp at btc0 btc1 btc2 btc3
      have lyy := yy.lt
      have yyc0 := yy.cell 0
      have yyc1 := yy.cell 1
      simp at yyc0 yyc1
      go_upto_region 11 with fail
      refine wp_region_noPanic (plain_any [0, 1, 2, 3, 4, 5, 6, 7, 8, 9, 10, 11, 12, 13] (Below WAp.heap.size WAp) mixed ?_)
      (refine any_take 0 ?_ (by rfl) (by kernel_rfl) (fun _ _ _ _ _ hx => hx.elim) (.inl ⟨by rfl, ?_⟩) (by exact bel_of) ?_; rotate_left; (intro X hX; obtain ⟨r1, r2⟩ := Below.rules hX; clear hX; go_simp; rfl); simp only [List.getElem_toArray, List.getElem_cons_succ, List.getElem_cons_zero, Act.put, List.setIfInBounds_toArray, List.set_cons_succ, List.set_cons_zero])
      (refine any_take 1 ?_ (by rfl) (by kernel_rfl) (fun _ _ _ _ _ hx => hx.elim) (.inl ⟨by rfl, ?_⟩) (by exact bel_of) ?_; rotate_left; (intro X hX; obtain ⟨r1, r2⟩ := Below.rules hX; clear hX; go_simp; rfl); simp only [List.getElem_toArray, List.getElem_cons_succ, List.getElem_cons_zero, Act.put, List.setIfInBounds_toArray, List.set_cons_succ, List.set_cons_zero])
      (refine any_take 2 ?_ (by rfl) (by kernel_rfl) (fun _ _ _ _ _ hx => hx.elim) (.inl ⟨by rfl, ?_⟩) (by exact bel_of) ?_; rotate_left; (intro X hX; obtain ⟨r1, r2⟩ := Below.rules hX; clear hX; go_simp; rfl); simp only [List.getElem_toArray, List.getElem_cons_succ, List.getElem_cons_zero, Act.put, List.setIfInBounds_toArray, List.set_cons_succ, List.set_cons_zero])
      (refine any_take 3 ?_ (by rfl) (by kernel_rfl) (fun _ _ _ _ _ hx => hx.elim) (.inl ⟨by rfl, ?_⟩) (by exact bel_of) ?_; rotate_left; (intro X hX; obtain ⟨r1, r2⟩ := Below.rules hX; clear hX; go_simp; rfl); simp only [List.getElem_toArray, List.getElem_cons_succ, List.getElem_cons_zero, Act.put, List.setIfInBounds_toArray, List.set_cons_succ, List.set_cons_zero])
      (refine any_take 4 ?_ (by rfl) (by kernel_rfl) (fun _ _ _ _ _ hx => hx.elim) (.inl ⟨by rfl, ?_⟩) (by exact bel_of) ?_; rotate_left; (intro X hX; obtain ⟨r1, r2⟩ := Below.rules hX; clear hX; go_simp; rfl); simp only [List.getElem_toArray, List.getElem_cons_succ, List.getElem_cons_zero, Act.put, List.setIfInBounds_toArray, List.set_cons_succ, List.set_cons_zero])
      (refine any_take 5 ?_ (by rfl) (by kernel_rfl) (fun _ _ _ _ _ hx => hx.elim) (.inl ⟨by rfl, ?_⟩) (by exact bel_of) ?_; rotate_left; (intro X hX; obtain ⟨r1, r2⟩ := Below.rules hX; clear hX; go_simp; rfl); simp only [List.getElem_toArray, List.getElem_cons_succ, List.getElem_cons_zero, Act.put, List.setIfInBounds_toArray, List.set_cons_succ, List.set_cons_zero])
      (refine any_take 6 ?_ (by rfl) (by kernel_rfl) (fun _ _ _ _ _ hx => hx.elim) (.inl ⟨by rfl, ?_⟩) (by exact bel_of) ?_; rotate_left; (intro X hX; obtain ⟨r1, r2⟩ := Below.rules hX; clear hX; go_simp; rfl); simp only [List.getElem_toArray, List.getElem_cons_succ, List.getElem_cons_zero, Act.put, List.setIfInBounds_toArray, List.set_cons_succ, List.set_cons_zero])
      (refine any_take 7 ?_ (by rfl) (by kernel_rfl) (fun _ _ _ _ _ hx => hx.elim) (.inl ⟨by rfl, ?_⟩) (by exact bel_of) ?_; rotate_left; (intro X hX; obtain ⟨r1, r2⟩ := Below.rules hX; clear hX; go_simp; rfl); simp only [List.getElem_toArray, List.getElem_cons_succ, List.getElem_cons_zero, Act.put, List.setIfInBounds_toArray, List.set_cons_succ, List.set_cons_zero])
      (refine any_take 8 ?_ (by rfl) (by kernel_rfl) (fun _ _ _ _ _ hx => hx.elim) (.inl ⟨by rfl, ?_⟩) (by exact bel_of) ?_; rotate_left; (intro X hX; obtain ⟨r1, r2⟩ := Below.rules hX; clear hX; go_simp; rfl); simp only [List.getElem_toArray, List.getElem_cons_succ, List.getElem_cons_zero, Act.put, List.setIfInBounds_toArray, List.set_cons_succ, List.set_cons_zero])
      (refine any_take 9 ?_ (by rfl) (by kernel_rfl) (fun _ _ _ _ _ hx => hx.elim) (.inl ⟨by rfl, ?_⟩) (by exact bel_of) ?_; rotate_left; (intro X hX; obtain ⟨r1, r2⟩ := Below.rules hX; clear hX; go_simp; rfl); simp only [List.getElem_toArray, List.getElem_cons_succ, List.getElem_cons_zero, Act.put, List.setIfInBounds_toArray, List.set_cons_succ, List.set_cons_zero])
      (refine any_take 10 ?_ (by rfl) (by kernel_rfl) (fun _ _ _ _ _ hx => hx.elim) (.inl ⟨by rfl, ?_⟩) (by exact bel_of) ?_; rotate_left; (intro X hX; obtain ⟨r1, r2⟩ := Below.rules hX; clear hX; go_simp; rfl); simp only [List.getElem_toArray, List.getElem_cons_succ, List.getElem_cons_zero, Act.put, List.setIfInBounds_toArray, List.set_cons_succ, List.set_cons_zero])
      (refine any_take 11 ?_ (by rfl) (by kernel_rfl) (fun _ _ _ _ _ hx => hx.elim) (.inl ⟨by rfl, ?_⟩) (by exact bel_of) ?_; rotate_left; (intro X hX; obtain ⟨r1, r2⟩ := Below.rules hX; clear hX; go_simp; rfl); simp only [List.getElem_toArray, List.getElem_cons_succ, List.getElem_cons_zero, Act.put, List.setIfInBounds_toArray, List.set_cons_succ, List.set_cons_zero])
      (refine any_take 12 ?_ (by rfl) (by kernel_rfl) (fun _ _ _ _ _ hx => hx.elim) (.inl ⟨by rfl, ?_⟩) (by exact bel_of) ?_; rotate_left; (intro X hX; obtain ⟨r1, r2⟩ := Below.rules hX; clear hX; go_simp; rfl); simp only [List.getElem_toArray, List.getElem_cons_succ, List.getElem_cons_zero, Act.put, List.setIfInBounds_toArray, List.set_cons_succ, List.set_cons_zero])
      (refine any_take 13 ?_ (by rfl) (by kernel_rfl) (fun _ _ _ _ _ hx => hx.elim) (.inl ⟨by rfl, ?_⟩) (by exact bel_of) ?_; rotate_left; (intro X hX; obtain ⟨r1, r2⟩ := Below.rules hX; clear hX; go_simp; rfl); simp only [List.getElem_toArray, List.getElem_cons_succ, List.getElem_cons_zero, Act.put, List.setIfInBounds_toArray, List.set_cons_succ, List.set_cons_zero])
      have hd0q : Below WAp.heap.size WAp (WAp.drew) := by exact bel_of
      refine any_run1 (i := 14) (by kernel_rfl) (by rfl) (by kernel_rfl) ?_
      intro K3 hK3
      go_wp2_with fail
      refine (test_any o2 o1 (-hi) (-lo) _).mono ?_
      rintro e Vq ⟨rfl, hb1⟩
      unfold tV
      have hb01 : Below WAp.heap.size WAp Vq := hd0q.trans (hb1.mono hd0q.size)
      refine hK3 _ _ (fun _ => hb01) ?_
      clear hK3 K3 hb1
      refine any_run1 (i := 15) (by kernel_rfl) (by rfl) (by kernel_rfl) ?_
      intro K3 hK3
      go_wp2_with fail
      obtain ⟨gv, hgv⟩ : ∃ n, Vq.heap.size = n := ⟨_, rfl⟩
      have bX : BK (Vq.alloc (.cells #[.int .i64 o2, .int .i64 o1, .int .i64 (-hi), .int .i64 (-lo)] 56)) gv #[.int .i64 o2, .int .i64 o1, .int .i64 (-hi), .int .i64 (-lo)] 56 := BK.new' _ _ _ gv hgv
      have hbX : Below Vq.heap.size Vq (Vq.alloc (.cells #[.int .i64 o2, .int .i64 o1, .int .i64 (-hi), .int .i64 (-lo)] 56)) := Below.alloc (Below.refl _ _) (Nat.le_refl _) _
      have hb0X := hb01.trans (hbX.mono hb01.size)
      refine hK3 _ _ (fun _ => hb0X) ?_
      clear hK3 K3
      try rw [hgv]
      have hbase : WB.heap.size ≤ (Vq.alloc (.cells #[.int .i64 o2, .int .i64 o1, .int .i64 (-hi), .int .i64 (-lo)] 56)).heap.size := by have := hD.size; have := hb0X.size; omega
      obtain ⟨vq, w9q, hrun, two9, hbel, hsz9, hkeep⟩ := two_grow (x := ⟨o2, o1, -hi, -lo⟩) (TwoT.below two2 hb0X) bX (by first | (simp [turnX, turnY]; done) | (simp [turnX, turnY]; omega)) hbase
      obtain ⟨Aq, nq, cq, hvq⟩ : ∃ A n c, vq = Value.slice A n c := by
        obtain ⟨A, c, h⟩ := own_slice two9.1
        exact ⟨A, _, c, h⟩
      subst hvq
      have yy9 := hkeep _ _ _ (yy.below hb0X yy.lt) (TwoT.ne (TwoT.below two2 hb0X) (yy.below hb0X yy.lt))
      have xx9 := hkeep _ _ _ (xx.below hb0X xx.lt) (TwoT.ne (TwoT.below two2 hb0X) (xx.below hb0X xx.lt))
      have bt9 := hkeep _ _ _ (bt.below hb0X bt.lt) nyy
      have hD9 : Below WB.heap.size WB w9q := hbel _ (hD.trans (hb0X.mono hD.size))
      have HRUN := Lib.hid hrun
      clear hgv hrun hbel hkeep bX hb0X hbX hb01 hd0q hsz9 hbase
      generalize Vq.alloc (.cells #[.int .i64 o2, .int .i64 o1, .int .i64 (-hi), .int .i64 (-lo)] 56) = VXq at *
      refine any_run1 (i := 16) (by kernel_rfl) (by rfl) (by kernel_rfl) ?_
      intro K3 hK3
      refine wp_append_run (.tmp 99) (.tmp 113) 22 _ rfl HRUN.out ?_
      refine hK3 _ _ (fun hx => (Bool.false_ne_true (hx.symm.trans (by kernel_rfl))).elim) ?_
      clear hK3 K3 HRUN
      simp only [List.getElem_toArray, List.getElem_cons_succ, List.getElem_cons_zero, Act.put, List.setIfInBounds_toArray, List.set_cons_succ, List.set_cons_zero]
      clear lbt btc0 btc1 btc2 btc3
      clear lyy yyc0 yyc1
      have lb := yy9.lt
      have y0 := yy9.cell 0
      have y1 := yy9.cell 1
      have f1 := yy9.frozen 1
      simp at y0 y1
      refine any_run1 (i := 17) (by kernel_rfl) (by rfl) (by kernel_rfl) ?_
      intro K3 hK3
      go_wp2_with fail
      refine hK3 _ _ (fun hx => (Bool.false_ne_true (hx.symm.trans (by kernel_rfl))).elim) ?_
      clear hK3 K3
      refine any_run1 (i := 18) (by kernel_rfl) (by rfl) (by kernel_rfl) ?_
      intro K3 hK3
      go_wp2_with fail
      refine hK3 _ _ (fun hx => (Bool.false_ne_true (hx.symm.trans (by kernel_rfl))).elim) ?_
      clear hK3 K3
      refine any_done (by kernel_rfl) (NoPanic.normal ?_)
      clear y0 y1 f1 lb
      have yyA : BK (w9q.setCell ⟨gyy, 1, none⟩ (.slice Aq nq cq)) gyy #[.int .i64 N, .slice Aq nq cq] 24 := by simpa using yy9.set 1 (.slice Aq nq cq)
      have xxA := xx9.far (p := ⟨gyy, 1, none⟩) (by show gxx ≠ gyy; omega) (.slice Aq nq cq)
      have btA := bt9.far (p := ⟨gyy, 1, none⟩) (by show m1 ≠ gyy; omega) (.slice Aq nq cq)
      have twoA := TwoT.far two9 (p := ⟨gyy, 1, none⟩) yy9 (.slice Aq nq cq)
      have hDA : Below WB.heap.size WB (w9q.setCell ⟨gyy, 1, none⟩ (.slice Aq nq cq)) := Below.setCell hD9 (by show WB.heap.size ≤ gyy; omega) _
      clear yy9 xx9 bt9 two9 hD9 yy xx bt two2 hD
      generalize w9q.setCell ⟨gyy, 1, none⟩ (.slice Aq nq cq) = WAq at *
      have yy := yyA
      have xx := xxA
      have bt := btA
      have two3 := twoA.symm
      have hD := hDA
      clear yyA xxA btA twoA hDA
      go_wp2_with fail
      go_roundw
      case rel => exact ⟨k + 1, by omega, by go_num, _, _, xx, yy, by rw [HTX.out, HTY.out]; exact two3, hD⟩
      case measure => simp [intOf]; omega
    have hlt' : ¬ (k : Int) < (ts.length : Int) := by omega
    rw [List.take_of_length_le (show ts.length ≤ k by omega)] at two
    obtain ⟨Ax, cx, rfl⟩ := own_slice two.1
    obtain ⟨Ay, cy, rfl⟩ := own_slice two.2.1
    have hX := OwnT.ri two.1
    have hY := OwnT.ri two.2.1
    have hlx : (turnX ts).length = ts.length := by simp [turnX]
    have hly : (turnY ts).length = ts.length := by simp [turnY]
    rw [hlx] at hX xx
    rw [hly] at hY yy
    clear hD two
    have HLX := Lib.hid hlx
    have HLY := Lib.hid hly
    clear hlx hly
    have HBX := Lib.hid (show bookE (N : Int) (turnX ts) = 0 from of_bookE (okb_turnX HO.out) (by simp [turnX]; omega))
    have HBY := Lib.hid (show bookE (N : Int) (turnY ts) = 0 from of_bookE (okb_turnY HO.out) (by simp [turnY]; omega))
    have lbx := bx.lt
    have bxc0 := bx.cell 0
    have bxc1 := bx.cell 1
    simp at bxc0 bxc1
    have lxx := xx.lt
    have xxc0 := xx.cell 0
    have xxc1 := xx.cell 1
    simp at xxc0 xxc1
    have lyy := yy.lt
    have yyc0 := yy.cell 0
    have yyc1 := yy.cell 1
    simp at yyc0 yyc1
    go_wp2_with fail
    clear lbx bxc0 bxc1
    clear lxx xxc0 xxc1
    clear lyy yyc0 yyc1
    by_cases ha : Agr N ts
    case neg =>
      have HA := Lib.hid ha
      have HAX := Lib.hid (show ¬ Agr N (turnX ts) from fun h => ha ((agr_turnX HO.out).1 h))
      have HAY := Lib.hid (show ¬ Agr N (turnY ts) from fun h => ha ((agr_turnY HO.out).1 h))
      clear ha
      refine (spanC_any (u := a) (z := z) _ _ HBK.out HA.out haN hzN hne (by omega) hR).mono ?_
      rintro e w3 ⟨rfl, hb⟩
      replace hC : Below n0 w w3 := hC.trans (hb.mono (by have := hC.size; omega))
      replace hR := (RS.below hR hb).more hb.size
      replace hu := (RS.below hu hb).more hb.size
      replace bx := bx.below hb bx.lt
      replace b2 := b2.below hb b2.lt
      replace xx := xx.below hb xx.lt
      replace yy := yy.below hb yy.lt
      replace hX := (RS.below hX hb).more hb.size
      replace hY := (RS.below hY hb).more hb.size
      clear hb
      have lbx := bx.lt
      have bxc0 := bx.cell 0
      have bxc1 := bx.cell 1
      simp at bxc0 bxc1
      have lxx := xx.lt
      have xxc0 := xx.cell 0
      have xxc1 := xx.cell 1
      simp at xxc0 xxc1
      have lyy := yy.lt
      have yyc0 := yy.cell 0
      have yyc1 := yy.cell 1
      simp at yyc0 yyc1
      go_wp2_with fail
      clear lbx bxc0 bxc1
      clear lxx xxc0 xxc1
      clear lyy yyc0 yyc1
      obtain ⟨m2, hm2⟩ : ∃ n, w3.heap.size = n := ⟨_, rfl⟩
      try rw [hm2]
      have hqr1 : n0 ≤ m2 := by have := hC.size; omega
      have r1 : BK (w3.alloc (.cells #[.int .i64 0, .int .i64 0] 36)) (m2) #[.int .i64 0, .int .i64 0] 36 := BK.new' _ _ _ (m2) hm2
      have hsr1 : (w3.alloc (.cells #[.int .i64 0, .int .i64 0] 36)).heap.size = m2 + 1 := by simp [hm2]
      replace hC : Below n0 w (w3.alloc (.cells #[.int .i64 0, .int .i64 0] 36)) := Below.alloc hC (by have := hC.size; omega) _
      replace hR := (RS.below hR (w' := (w3.alloc (.cells #[.int .i64 0, .int .i64 0] 36))) (Below.alloc (Below.refl _ _) (Nat.le_refl _) _)).more (B' := (w3.alloc (.cells #[.int .i64 0, .int .i64 0] 36)).heap.size) (by simp)
      replace hu := (RS.below hu (w' := (w3.alloc (.cells #[.int .i64 0, .int .i64 0] 36))) (Below.alloc (Below.refl _ _) (Nat.le_refl _) _)).more (B' := (w3.alloc (.cells #[.int .i64 0, .int .i64 0] 36)).heap.size) (by simp)
      replace bx := bx.alloc (.cells #[.int .i64 0, .int .i64 0] 36)
      replace b2 := b2.alloc (.cells #[.int .i64 0, .int .i64 0] 36)
      replace xx := xx.alloc (.cells #[.int .i64 0, .int .i64 0] 36)
      replace yy := yy.alloc (.cells #[.int .i64 0, .int .i64 0] 36)
      replace hX := (RS.below hX (w' := (w3.alloc (.cells #[.int .i64 0, .int .i64 0] 36))) (Below.alloc (Below.refl _ _) (Nat.le_refl _) _)).more (B' := (w3.alloc (.cells #[.int .i64 0, .int .i64 0] 36)).heap.size) (by simp)
      replace hY := (RS.below hY (w' := (w3.alloc (.cells #[.int .i64 0, .int .i64 0] 36))) (Below.alloc (Below.refl _ _) (Nat.le_refl _) _)).more (B' := (w3.alloc (.cells #[.int .i64 0, .int .i64 0] 36)).heap.size) (by simp)
      generalize (w3.alloc (.cells #[.int .i64 0, .int .i64 0] 36)) = Wr1 at *
      clear hm2
      have lbx := bx.lt
      have bxc0 := bx.cell 0
      have bxc1 := bx.cell 1
      simp at bxc0 bxc1
      have lxx := xx.lt
      have xxc0 := xx.cell 0
      have xxc1 := xx.cell 1
      simp at xxc0 xxc1
      have lyy := yy.lt
      have yyc0 := yy.cell 0
      have yyc1 := yy.cell 1
      simp at yyc0 yyc1
      go_wp2_with fail
      clear lbx bxc0 bxc1
      clear lxx xxc0 xxc1
      clear lyy yyc0 yyc1
      clear hsr1
      refine (spanC_any (u := a) (z := z) _ _ HBX.out HAX.out haN hzN hne (by have := HLX.out; omega) hX).mono ?_
      rintro e w4 ⟨rfl, hb⟩
      replace hC : Below n0 w w4 := hC.trans (hb.mono (by have := hC.size; omega))
      replace hR := (RS.below hR hb).more hb.size
      replace hu := (RS.below hu hb).more hb.size
      replace bx := bx.below hb bx.lt
      replace b2 := b2.below hb b2.lt
      replace xx := xx.below hb xx.lt
      replace yy := yy.below hb yy.lt
      replace hX := (RS.below hX hb).more hb.size
      replace hY := (RS.below hY hb).more hb.size
      replace r1 := r1.below hb r1.lt
      clear hb
      have lbx := bx.lt
      have bxc0 := bx.cell 0
      have bxc1 := bx.cell 1
      simp at bxc0 bxc1
      have lxx := xx.lt
      have xxc0 := xx.cell 0
      have xxc1 := xx.cell 1
      simp at xxc0 xxc1
      have lyy := yy.lt
      have yyc0 := yy.cell 0
      have yyc1 := yy.cell 1
      simp at yyc0 yyc1
      go_wp2_with fail
      clear lbx bxc0 bxc1
      clear lxx xxc0 xxc1
      clear lyy yyc0 yyc1
      obtain ⟨m3, hm3⟩ : ∃ n, w4.heap.size = n := ⟨_, rfl⟩
      try rw [hm3]
      have hqr2 : n0 ≤ m3 := by have := hC.size; omega
      have r2 : BK (w4.alloc (.cells #[.int .i64 0, .int .i64 0] 36)) (m3) #[.int .i64 0, .int .i64 0] 36 := BK.new' _ _ _ (m3) hm3
      have hsr2 : (w4.alloc (.cells #[.int .i64 0, .int .i64 0] 36)).heap.size = m3 + 1 := by simp [hm3]
      replace hC : Below n0 w (w4.alloc (.cells #[.int .i64 0, .int .i64 0] 36)) := Below.alloc hC (by have := hC.size; omega) _
      replace hR := (RS.below hR (w' := (w4.alloc (.cells #[.int .i64 0, .int .i64 0] 36))) (Below.alloc (Below.refl _ _) (Nat.le_refl _) _)).more (B' := (w4.alloc (.cells #[.int .i64 0, .int .i64 0] 36)).heap.size) (by simp)
      replace hu := (RS.below hu (w' := (w4.alloc (.cells #[.int .i64 0, .int .i64 0] 36))) (Below.alloc (Below.refl _ _) (Nat.le_refl _) _)).more (B' := (w4.alloc (.cells #[.int .i64 0, .int .i64 0] 36)).heap.size) (by simp)
      replace bx := bx.alloc (.cells #[.int .i64 0, .int .i64 0] 36)
      replace b2 := b2.alloc (.cells #[.int .i64 0, .int .i64 0] 36)
      replace xx := xx.alloc (.cells #[.int .i64 0, .int .i64 0] 36)
      replace yy := yy.alloc (.cells #[.int .i64 0, .int .i64 0] 36)
      replace hX := (RS.below hX (w' := (w4.alloc (.cells #[.int .i64 0, .int .i64 0] 36))) (Below.alloc (Below.refl _ _) (Nat.le_refl _) _)).more (B' := (w4.alloc (.cells #[.int .i64 0, .int .i64 0] 36)).heap.size) (by simp)
      replace hY := (RS.below hY (w' := (w4.alloc (.cells #[.int .i64 0, .int .i64 0] 36))) (Below.alloc (Below.refl _ _) (Nat.le_refl _) _)).more (B' := (w4.alloc (.cells #[.int .i64 0, .int .i64 0] 36)).heap.size) (by simp)
      replace r1 := r1.alloc (.cells #[.int .i64 0, .int .i64 0] 36)
      generalize (w4.alloc (.cells #[.int .i64 0, .int .i64 0] 36)) = Wr2 at *
      clear hm3
      have lbx := bx.lt
      have bxc0 := bx.cell 0
      have bxc1 := bx.cell 1
      simp at bxc0 bxc1
      have lxx := xx.lt
      have xxc0 := xx.cell 0
      have xxc1 := xx.cell 1
      simp at xxc0 xxc1
      have lyy := yy.lt
      have yyc0 := yy.cell 0
      have yyc1 := yy.cell 1
      simp at yyc0 yyc1
      go_wp2_with fail
      clear lbx bxc0 bxc1
      clear lxx xxc0 xxc1
      clear lyy yyc0 yyc1
      clear hsr2
      refine (spanC_any (u := a) (z := z) _ _ HBY.out HAY.out haN hzN hne (by have := HLY.out; omega) hY).mono ?_
      rintro e w5 ⟨rfl, hb⟩
      replace hC : Below n0 w w5 := hC.trans (hb.mono (by have := hC.size; omega))
      replace hR := (RS.below hR hb).more hb.size
      replace hu := (RS.below hu hb).more hb.size
      replace bx := bx.below hb bx.lt
      replace b2 := b2.below hb b2.lt
      replace xx := xx.below hb xx.lt
      replace yy := yy.below hb yy.lt
      replace hX := (RS.below hX hb).more hb.size
      replace hY := (RS.below hY hb).more hb.size
      replace r1 := r1.below hb r1.lt
      replace r2 := r2.below hb r2.lt
      clear hb
      have lbx := bx.lt
      have bxc0 := bx.cell 0
      have bxc1 := bx.cell 1
      simp at bxc0 bxc1
      have lxx := xx.lt
      have xxc0 := xx.cell 0
      have xxc1 := xx.cell 1
      simp at xxc0 xxc1
      have lyy := yy.lt
      have yyc0 := yy.cell 0
      have yyc1 := yy.cell 1
      simp at yyc0 yyc1
      go_wp2_with fail
      clear lbx bxc0 bxc1
      clear lxx xxc0 xxc1
      clear lyy yyc0 yyc1
      obtain ⟨m4, hm4⟩ : ∃ n, w5.heap.size = n := ⟨_, rfl⟩
      try rw [hm4]
      have hqr3 : n0 ≤ m4 := by have := hC.size; omega
      have r3 : BK (w5.alloc (.cells #[.int .i64 0, .int .i64 0] 36)) (m4) #[.int .i64 0, .int .i64 0] 36 := BK.new' _ _ _ (m4) hm4
      have hsr3 : (w5.alloc (.cells #[.int .i64 0, .int .i64 0] 36)).heap.size = m4 + 1 := by simp [hm4]
      replace hC : Below n0 w (w5.alloc (.cells #[.int .i64 0, .int .i64 0] 36)) := Below.alloc hC (by have := hC.size; omega) _
      replace hR := (RS.below hR (w' := (w5.alloc (.cells #[.int .i64 0, .int .i64 0] 36))) (Below.alloc (Below.refl _ _) (Nat.le_refl _) _)).more (B' := (w5.alloc (.cells #[.int .i64 0, .int .i64 0] 36)).heap.size) (by simp)
      replace hu := (RS.below hu (w' := (w5.alloc (.cells #[.int .i64 0, .int .i64 0] 36))) (Below.alloc (Below.refl _ _) (Nat.le_refl _) _)).more (B' := (w5.alloc (.cells #[.int .i64 0, .int .i64 0] 36)).heap.size) (by simp)
      replace bx := bx.alloc (.cells #[.int .i64 0, .int .i64 0] 36)
      replace b2 := b2.alloc (.cells #[.int .i64 0, .int .i64 0] 36)
      replace xx := xx.alloc (.cells #[.int .i64 0, .int .i64 0] 36)
      replace yy := yy.alloc (.cells #[.int .i64 0, .int .i64 0] 36)
      replace hX := (RS.below hX (w' := (w5.alloc (.cells #[.int .i64 0, .int .i64 0] 36))) (Below.alloc (Below.refl _ _) (Nat.le_refl _) _)).more (B' := (w5.alloc (.cells #[.int .i64 0, .int .i64 0] 36)).heap.size) (by simp)
      replace hY := (RS.below hY (w' := (w5.alloc (.cells #[.int .i64 0, .int .i64 0] 36))) (Below.alloc (Below.refl _ _) (Nat.le_refl _) _)).more (B' := (w5.alloc (.cells #[.int .i64 0, .int .i64 0] 36)).heap.size) (by simp)
      replace r1 := r1.alloc (.cells #[.int .i64 0, .int .i64 0] 36)
      replace r2 := r2.alloc (.cells #[.int .i64 0, .int .i64 0] 36)
      generalize (w5.alloc (.cells #[.int .i64 0, .int .i64 0] 36)) = Wr3 at *
      clear hm4
      have lbx := bx.lt
      have bxc0 := bx.cell 0
      have bxc1 := bx.cell 1
      simp at bxc0 bxc1
      have lxx := xx.lt
      have xxc0 := xx.cell 0
      have xxc1 := xx.cell 1
      simp at xxc0 xxc1
      have lyy := yy.lt
      have yyc0 := yy.cell 0
      have yyc1 := yy.cell 1
      simp at yyc0 yyc1
      go_wp2_with fail
      clear lbx bxc0 bxc1
      clear lxx xxc0 xxc1
      clear lyy yyc0 yyc1
      clear hsr3
      refine (sharpC_any (u := a) _ _ HBK.out HA.out haN (by omega) hR).mono ?_
      rintro e w6 ⟨rfl, hb⟩
      replace hC : Below n0 w w6 := hC.trans (hb.mono (by have := hC.size; omega))
      replace hR := (RS.below hR hb).more hb.size
      replace hu := (RS.below hu hb).more hb.size
      replace bx := bx.below hb bx.lt
      replace b2 := b2.below hb b2.lt
      replace xx := xx.below hb xx.lt
      replace yy := yy.below hb yy.lt
      replace hX := (RS.below hX hb).more hb.size
      replace hY := (RS.below hY hb).more hb.size
      replace r1 := r1.below hb r1.lt
      replace r2 := r2.below hb r2.lt
      replace r3 := r3.below hb r3.lt
      clear hb
      have lbx := bx.lt
      have bxc0 := bx.cell 0
      have bxc1 := bx.cell 1
      simp at bxc0 bxc1
      have lxx := xx.lt
      have xxc0 := xx.cell 0
      have xxc1 := xx.cell 1
      simp at xxc0 xxc1
      have lyy := yy.lt
      have yyc0 := yy.cell 0
      have yyc1 := yy.cell 1
      simp at yyc0 yyc1
      go_wp2_with fail
      clear lbx bxc0 bxc1
      clear lxx xxc0 xxc1
      clear lyy yyc0 yyc1
      obtain ⟨m5, hm5⟩ : ∃ n, w6.heap.size = n := ⟨_, rfl⟩
      try rw [hm5]
      have hqr4 : n0 ≤ m5 := by have := hC.size; omega
      have r4 : BK (w6.alloc (.cells #[.int .i64 0, .int .i64 0] 36)) (m5) #[.int .i64 0, .int .i64 0] 36 := BK.new' _ _ _ (m5) hm5
      have hsr4 : (w6.alloc (.cells #[.int .i64 0, .int .i64 0] 36)).heap.size = m5 + 1 := by simp [hm5]
      replace hC : Below n0 w (w6.alloc (.cells #[.int .i64 0, .int .i64 0] 36)) := Below.alloc hC (by have := hC.size; omega) _
      replace hR := (RS.below hR (w' := (w6.alloc (.cells #[.int .i64 0, .int .i64 0] 36))) (Below.alloc (Below.refl _ _) (Nat.le_refl _) _)).more (B' := (w6.alloc (.cells #[.int .i64 0, .int .i64 0] 36)).heap.size) (by simp)
      replace hu := (RS.below hu (w' := (w6.alloc (.cells #[.int .i64 0, .int .i64 0] 36))) (Below.alloc (Below.refl _ _) (Nat.le_refl _) _)).more (B' := (w6.alloc (.cells #[.int .i64 0, .int .i64 0] 36)).heap.size) (by simp)
      replace bx := bx.alloc (.cells #[.int .i64 0, .int .i64 0] 36)
      replace b2 := b2.alloc (.cells #[.int .i64 0, .int .i64 0] 36)
      replace xx := xx.alloc (.cells #[.int .i64 0, .int .i64 0] 36)
      replace yy := yy.alloc (.cells #[.int .i64 0, .int .i64 0] 36)
      replace hX := (RS.below hX (w' := (w6.alloc (.cells #[.int .i64 0, .int .i64 0] 36))) (Below.alloc (Below.refl _ _) (Nat.le_refl _) _)).more (B' := (w6.alloc (.cells #[.int .i64 0, .int .i64 0] 36)).heap.size) (by simp)
      replace hY := (RS.below hY (w' := (w6.alloc (.cells #[.int .i64 0, .int .i64 0] 36))) (Below.alloc (Below.refl _ _) (Nat.le_refl _) _)).more (B' := (w6.alloc (.cells #[.int .i64 0, .int .i64 0] 36)).heap.size) (by simp)
      replace r1 := r1.alloc (.cells #[.int .i64 0, .int .i64 0] 36)
      replace r2 := r2.alloc (.cells #[.int .i64 0, .int .i64 0] 36)
      replace r3 := r3.alloc (.cells #[.int .i64 0, .int .i64 0] 36)
      generalize (w6.alloc (.cells #[.int .i64 0, .int .i64 0] 36)) = Wr4 at *
      clear hm5
      have lbx := bx.lt
      have bxc0 := bx.cell 0
      have bxc1 := bx.cell 1
      simp at bxc0 bxc1
      have lxx := xx.lt
      have xxc0 := xx.cell 0
      have xxc1 := xx.cell 1
      simp at xxc0 xxc1
      have lyy := yy.lt
      have yyc0 := yy.cell 0
      have yyc1 := yy.cell 1
      simp at yyc0 yyc1
      go_wp2_with fail
      clear lbx bxc0 bxc1
      clear lxx xxc0 xxc1
      clear lyy yyc0 yyc1
      clear hsr4
      refine (sharpC_any (u := a) _ _ HBX.out HAX.out haN (by have := HLX.out; omega) hX).mono ?_
      rintro e w7 ⟨rfl, hb⟩
      replace hC : Below n0 w w7 := hC.trans (hb.mono (by have := hC.size; omega))
      replace hR := (RS.below hR hb).more hb.size
      replace hu := (RS.below hu hb).more hb.size
      replace bx := bx.below hb bx.lt
      replace b2 := b2.below hb b2.lt
      replace xx := xx.below hb xx.lt
      replace yy := yy.below hb yy.lt
      replace hX := (RS.below hX hb).more hb.size
      replace hY := (RS.below hY hb).more hb.size
      replace r1 := r1.below hb r1.lt
      replace r2 := r2.below hb r2.lt
      replace r3 := r3.below hb r3.lt
      replace r4 := r4.below hb r4.lt
      clear hb
      have lbx := bx.lt
      have bxc0 := bx.cell 0
      have bxc1 := bx.cell 1
      simp at bxc0 bxc1
      have lxx := xx.lt
      have xxc0 := xx.cell 0
      have xxc1 := xx.cell 1
      simp at xxc0 xxc1
      have lyy := yy.lt
      have yyc0 := yy.cell 0
      have yyc1 := yy.cell 1
      simp at yyc0 yyc1
      go_upto_region 17 with fail
      clear lbx bxc0 bxc1
      clear lxx xxc0 xxc1
      clear lyy yyc0 yyc1
      obtain ⟨m6, hm6⟩ : ∃ n, w7.heap.size = n := ⟨_, rfl⟩
      try rw [hm6]
      have hqr5 : n0 ≤ m6 := by have := hC.size; omega
      have r5 : BK (w7.alloc (.cells #[.int .i64 0, .int .i64 0] 36)) (m6) #[.int .i64 0, .int .i64 0] 36 := BK.new' _ _ _ (m6) hm6
      have hsr5 : (w7.alloc (.cells #[.int .i64 0, .int .i64 0] 36)).heap.size = m6 + 1 := by simp [hm6]
      replace hC : Below n0 w (w7.alloc (.cells #[.int .i64 0, .int .i64 0] 36)) := Below.alloc hC (by have := hC.size; omega) _
      replace hR := (RS.below hR (w' := (w7.alloc (.cells #[.int .i64 0, .int .i64 0] 36))) (Below.alloc (Below.refl _ _) (Nat.le_refl _) _)).more (B' := (w7.alloc (.cells #[.int .i64 0, .int .i64 0] 36)).heap.size) (by simp)
      replace hu := (RS.below hu (w' := (w7.alloc (.cells #[.int .i64 0, .int .i64 0] 36))) (Below.alloc (Below.refl _ _) (Nat.le_refl _) _)).more (B' := (w7.alloc (.cells #[.int .i64 0, .int .i64 0] 36)).heap.size) (by simp)
      replace bx := bx.alloc (.cells #[.int .i64 0, .int .i64 0] 36)
      replace b2 := b2.alloc (.cells #[.int .i64 0, .int .i64 0] 36)
      replace xx := xx.alloc (.cells #[.int .i64 0, .int .i64 0] 36)
      replace yy := yy.alloc (.cells #[.int .i64 0, .int .i64 0] 36)
      replace hX := (RS.below hX (w' := (w7.alloc (.cells #[.int .i64 0, .int .i64 0] 36))) (Below.alloc (Below.refl _ _) (Nat.le_refl _) _)).more (B' := (w7.alloc (.cells #[.int .i64 0, .int .i64 0] 36)).heap.size) (by simp)
      replace hY := (RS.below hY (w' := (w7.alloc (.cells #[.int .i64 0, .int .i64 0] 36))) (Below.alloc (Below.refl _ _) (Nat.le_refl _) _)).more (B' := (w7.alloc (.cells #[.int .i64 0, .int .i64 0] 36)).heap.size) (by simp)
      replace r1 := r1.alloc (.cells #[.int .i64 0, .int .i64 0] 36)
      replace r2 := r2.alloc (.cells #[.int .i64 0, .int .i64 0] 36)
      replace r3 := r3.alloc (.cells #[.int .i64 0, .int .i64 0] 36)
      replace r4 := r4.alloc (.cells #[.int .i64 0, .int .i64 0] 36)
      generalize (w7.alloc (.cells #[.int .i64 0, .int .i64 0] 36)) = Wr5 at *
      clear hm6
      have lr1 := r1.lt
      have r1c0 := r1.cell 0
      have r1c1 := r1.cell 1
      simp at r1c0 r1c1
      have lr2 := r2.lt
      have r2c0 := r2.cell 0
      have r2c1 := r2.cell 1
      simp at r2c0 r2c1
      have lr3 := r3.lt
      have r3c0 := r3.cell 0
      have r3c1 := r3.cell 1
      simp at r3c0 r3c1
      have lr4 := r4.lt
      have r4c0 := r4.cell 0
      have r4c1 := r4.cell 1
      simp at r4c0 r4c1
      have lr5 := r5.lt
      have r5c0 := r5.cell 0
      have r5c1 := r5.cell 1
      simp at r5c0 r5c1
      try simp only [List.append_eq, List.cons_append, List.nil_append]
      clear hsr5
      refine wp_region_noPanic (plain_any [0, 1, 2, 3, 4, 5, 6, 7, 8, 9, 10, 11, 12, 13, 14, 15, 16, 17, 18, 19, 20, 21, 22, 23, 24, 25, 26, 27, 28, 29, 30, 31, 32, 33, 34, 35, 36, 37, 38, 39, 40, 41, 42, 43, 44, 45, 46, 47, 48, 49, 50, 51, 52, 53, 54, 55, 56] (Below Wr5.heap.size Wr5) mixed ?_)
      (refine any_take 0 ?_ (by rfl) (by kernel_rfl) (fun _ _ _ _ _ hx => hx.elim) (.inl ⟨by rfl, ?_⟩) (by exact bel_of) ?_; rotate_left; (intro X hX; obtain ⟨r1, r2⟩ := Below.rules hX; clear hX; go_simp; rfl); simp only [List.getElem_toArray, List.getElem_cons_succ, List.getElem_cons_zero, Act.put, List.setIfInBounds_toArray, List.set_cons_succ, List.set_cons_zero])
      have d0z : Below Wr5.heap.size Wr5 Wr5.drew := by exact bel_of
      (refine any_take 1 ?_ (by rfl) (by kernel_rfl) (fun _ _ _ _ _ hx => hx.elim) (.inl ⟨by rfl, ?_⟩) (by exact bel_of) ?_; rotate_left; (intro X hX; obtain ⟨r1, r2⟩ := Below.rules hX; clear hX; go_simp; rfl); simp only [List.getElem_toArray, List.getElem_cons_succ, List.getElem_cons_zero, Act.put, List.setIfInBounds_toArray, List.set_cons_succ, List.set_cons_zero])
      (refine any_take 2 ?_ (by rfl) (by kernel_rfl) (fun _ _ _ _ _ hx => hx.elim) (.inl ⟨by rfl, ?_⟩) (by exact bel_of) ?_; rotate_left; (intro X hX; obtain ⟨r1, r2⟩ := Below.rules hX; clear hX; go_simp; rfl); simp only [List.getElem_toArray, List.getElem_cons_succ, List.getElem_cons_zero, Act.put, List.setIfInBounds_toArray, List.set_cons_succ, List.set_cons_zero])
      (refine any_take 3 ?_ (by rfl) (by kernel_rfl) (fun _ _ _ _ _ hx => hx.elim) (.inl ⟨by rfl, ?_⟩) (by exact bel_of) ?_; rotate_left; (intro X hX; obtain ⟨r1, r2⟩ := Below.rules hX; clear hX; go_simp; rfl); simp only [List.getElem_toArray, List.getElem_cons_succ, List.getElem_cons_zero, Act.put, List.setIfInBounds_toArray, List.set_cons_succ, List.set_cons_zero])
      (refine any_take 4 ?_ (by rfl) (by kernel_rfl) (fun _ _ _ _ _ hx => hx.elim) (.inl ⟨by rfl, ?_⟩) (by exact bel_of) ?_; rotate_left; (intro X hX; obtain ⟨r1, r2⟩ := Below.rules hX; clear hX; go_simp; rfl); simp only [List.getElem_toArray, List.getElem_cons_succ, List.getElem_cons_zero, Act.put, List.setIfInBounds_toArray, List.set_cons_succ, List.set_cons_zero])
      (refine any_take 5 ?_ (by rfl) (by kernel_rfl) (fun _ _ _ _ _ hx => hx.elim) (.inl ⟨by rfl, ?_⟩) (by exact bel_of) ?_; rotate_left; (intro X hX; obtain ⟨r1, r2⟩ := Below.rules hX; clear hX; go_simp; rfl); simp only [List.getElem_toArray, List.getElem_cons_succ, List.getElem_cons_zero, Act.put, List.setIfInBounds_toArray, List.set_cons_succ, List.set_cons_zero])
      (refine any_take 6 ?_ (by rfl) (by kernel_rfl) (fun _ _ _ _ _ hx => hx.elim) (.inl ⟨by rfl, ?_⟩) (by exact bel_of) ?_; rotate_left; (intro X hX; obtain ⟨r1, r2⟩ := Below.rules hX; clear hX; go_simp; rfl); simp only [List.getElem_toArray, List.getElem_cons_succ, List.getElem_cons_zero, Act.put, List.setIfInBounds_toArray, List.set_cons_succ, List.set_cons_zero])
      (refine any_take 7 ?_ (by rfl) (by kernel_rfl) (fun _ _ _ _ _ hx => hx.elim) (.inl ⟨by rfl, ?_⟩) (by exact bel_of) ?_; rotate_left; (intro X hX; obtain ⟨r1, r2⟩ := Below.rules hX; clear hX; go_simp; rfl); simp only [List.getElem_toArray, List.getElem_cons_succ, List.getElem_cons_zero, Act.put, List.setIfInBounds_toArray, List.set_cons_succ, List.set_cons_zero])
      (refine any_take 8 ?_ (by rfl) (by kernel_rfl) (fun _ _ _ _ _ hx => hx.elim) (.inl ⟨by rfl, ?_⟩) (by exact bel_of) ?_; rotate_left; (intro X hX; obtain ⟨r1, r2⟩ := Below.rules hX; clear hX; go_simp; rfl); simp only [List.getElem_toArray, List.getElem_cons_succ, List.getElem_cons_zero, Act.put, List.setIfInBounds_toArray, List.set_cons_succ, List.set_cons_zero])
      (refine any_take 9 ?_ (by rfl) (by kernel_rfl) (fun _ _ _ _ _ hx => hx.elim) (.inl ⟨by rfl, ?_⟩) (by exact bel_of) ?_; rotate_left; (intro X hX; obtain ⟨r1, r2⟩ := Below.rules hX; clear hX; go_simp; rfl); simp only [List.getElem_toArray, List.getElem_cons_succ, List.getElem_cons_zero, Act.put, List.setIfInBounds_toArray, List.set_cons_succ, List.set_cons_zero])
      (refine any_take 10 ?_ (by rfl) (by kernel_rfl) (fun _ _ _ _ _ hx => hx.elim) (.inl ⟨by rfl, ?_⟩) (by exact bel_of) ?_; rotate_left; (intro X hX; obtain ⟨r1, r2⟩ := Below.rules hX; clear hX; go_simp; rfl); simp only [List.getElem_toArray, List.getElem_cons_succ, List.getElem_cons_zero, Act.put, List.setIfInBounds_toArray, List.set_cons_succ, List.set_cons_zero])
      (refine any_take 11 ?_ (by rfl) (by kernel_rfl) (fun _ _ _ _ _ hx => hx.elim) (.inl ⟨by rfl, ?_⟩) (by exact bel_of) ?_; rotate_left; (intro X hX; obtain ⟨r1, r2⟩ := Below.rules hX; clear hX; go_simp; rfl); simp only [List.getElem_toArray, List.getElem_cons_succ, List.getElem_cons_zero, Act.put, List.setIfInBounds_toArray, List.set_cons_succ, List.set_cons_zero])
      (refine any_take 12 ?_ (by rfl) (by kernel_rfl) (fun _ _ _ _ _ hx => hx.elim) (.inl ⟨by rfl, ?_⟩) (by exact bel_of) ?_; rotate_left; (intro X hX; obtain ⟨r1, r2⟩ := Below.rules hX; clear hX; go_simp; rfl); simp only [List.getElem_toArray, List.getElem_cons_succ, List.getElem_cons_zero, Act.put, List.setIfInBounds_toArray, List.set_cons_succ, List.set_cons_zero])
      (refine any_take 13 ?_ (by rfl) (by kernel_rfl) (fun _ _ _ _ _ hx => hx.elim) (.inl ⟨by rfl, ?_⟩) (by exact bel_of) ?_; rotate_left; (intro X hX; obtain ⟨r1, r2⟩ := Below.rules hX; clear hX; go_simp; rfl); simp only [List.getElem_toArray, List.getElem_cons_succ, List.getElem_cons_zero, Act.put, List.setIfInBounds_toArray, List.set_cons_succ, List.set_cons_zero])
      (refine any_take 14 ?_ (by rfl) (by kernel_rfl) (fun _ _ _ _ _ hx => hx.elim) (.inl ⟨by rfl, ?_⟩) (by exact bel_of) ?_; rotate_left; (intro X hX; obtain ⟨r1, r2⟩ := Below.rules hX; clear hX; go_simp; rfl); simp only [List.getElem_toArray, List.getElem_cons_succ, List.getElem_cons_zero, Act.put, List.setIfInBounds_toArray, List.set_cons_succ, List.set_cons_zero])
      (refine any_take 15 ?_ (by rfl) (by kernel_rfl) (fun _ _ _ _ _ hx => hx.elim) (.inl ⟨by rfl, ?_⟩) (by exact bel_of) ?_; rotate_left; (intro X hX; obtain ⟨r1, r2⟩ := Below.rules hX; clear hX; go_simp; rfl); simp only [List.getElem_toArray, List.getElem_cons_succ, List.getElem_cons_zero, Act.put, List.setIfInBounds_toArray, List.set_cons_succ, List.set_cons_zero])
      (refine any_take 16 ?_ (by rfl) (by kernel_rfl) (fun _ _ _ _ _ hx => hx.elim) (.inl ⟨by rfl, ?_⟩) (by exact bel_of) ?_; rotate_left; (intro X hX; obtain ⟨r1, r2⟩ := Below.rules hX; clear hX; go_simp; rfl); simp only [List.getElem_toArray, List.getElem_cons_succ, List.getElem_cons_zero, Act.put, List.setIfInBounds_toArray, List.set_cons_succ, List.set_cons_zero])
      (refine any_take 17 ?_ (by rfl) (by kernel_rfl) (fun _ _ _ _ _ hx => hx.elim) (.inl ⟨by rfl, ?_⟩) (by exact bel_of) ?_; rotate_left; (intro X hX; obtain ⟨r1, r2⟩ := Below.rules hX; clear hX; go_simp; rfl); simp only [List.getElem_toArray, List.getElem_cons_succ, List.getElem_cons_zero, Act.put, List.setIfInBounds_toArray, List.set_cons_succ, List.set_cons_zero])
      (refine any_take 18 ?_ (by rfl) (by kernel_rfl) (fun _ _ _ _ _ hx => hx.elim) (.inl ⟨by rfl, ?_⟩) (by exact bel_of) ?_; rotate_left; (intro X hX; obtain ⟨r1, r2⟩ := Below.rules hX; clear hX; go_simp; rfl); simp only [List.getElem_toArray, List.getElem_cons_succ, List.getElem_cons_zero, Act.put, List.setIfInBounds_toArray, List.set_cons_succ, List.set_cons_zero])
      (refine any_take 19 ?_ (by rfl) (by kernel_rfl) (fun _ _ _ _ _ hx => hx.elim) (.inl ⟨by rfl, ?_⟩) (by exact bel_of) ?_; rotate_left; (intro X hX; obtain ⟨r1, r2⟩ := Below.rules hX; clear hX; go_simp; rfl); simp only [List.getElem_toArray, List.getElem_cons_succ, List.getElem_cons_zero, Act.put, List.setIfInBounds_toArray, List.set_cons_succ, List.set_cons_zero])
      (refine any_take 20 ?_ (by rfl) (by kernel_rfl) (fun _ _ _ _ _ hx => hx.elim) (.inl ⟨by rfl, ?_⟩) (by exact bel_of) ?_; rotate_left; (intro X hX; obtain ⟨r1, r2⟩ := Below.rules hX; clear hX; go_simp; rfl); simp only [List.getElem_toArray, List.getElem_cons_succ, List.getElem_cons_zero, Act.put, List.setIfInBounds_toArray, List.set_cons_succ, List.set_cons_zero])
      (refine any_take 21 ?_ (by rfl) (by kernel_rfl) (fun _ _ _ _ _ hx => hx.elim) (.inl ⟨by rfl, ?_⟩) (by exact bel_of) ?_; rotate_left; (intro X hX; obtain ⟨r1, r2⟩ := Below.rules hX; clear hX; go_simp; rfl); simp only [List.getElem_toArray, List.getElem_cons_succ, List.getElem_cons_zero, Act.put, List.setIfInBounds_toArray, List.set_cons_succ, List.set_cons_zero])
      (refine any_take 22 ?_ (by rfl) (by kernel_rfl) (fun _ _ _ _ _ hx => hx.elim) (.inl ⟨by rfl, ?_⟩) (by exact bel_of) ?_; rotate_left; (intro X hX; obtain ⟨r1, r2⟩ := Below.rules hX; clear hX; go_simp; rfl); simp only [List.getElem_toArray, List.getElem_cons_succ, List.getElem_cons_zero, Act.put, List.setIfInBounds_toArray, List.set_cons_succ, List.set_cons_zero])
      (refine any_take 23 ?_ (by rfl) (by kernel_rfl) (fun _ _ _ _ _ hx => hx.elim) (.inl ⟨by rfl, ?_⟩) (by exact bel_of) ?_; rotate_left; (intro X hX; obtain ⟨r1, r2⟩ := Below.rules hX; clear hX; go_simp; rfl); simp only [List.getElem_toArray, List.getElem_cons_succ, List.getElem_cons_zero, Act.put, List.setIfInBounds_toArray, List.set_cons_succ, List.set_cons_zero])
      (refine any_take 24 ?_ (by rfl) (by kernel_rfl) (fun _ _ _ _ _ hx => hx.elim) (.inl ⟨by rfl, ?_⟩) (by exact bel_of) ?_; rotate_left; (intro X hX; obtain ⟨r1, r2⟩ := Below.rules hX; clear hX; go_simp; rfl); simp only [List.getElem_toArray, List.getElem_cons_succ, List.getElem_cons_zero, Act.put, List.setIfInBounds_toArray, List.set_cons_succ, List.set_cons_zero])
      (refine any_take 25 ?_ (by rfl) (by kernel_rfl) (fun _ _ _ _ _ hx => hx.elim) (.inl ⟨by rfl, ?_⟩) (by exact bel_of) ?_; rotate_left; (intro X hX; obtain ⟨r1, r2⟩ := Below.rules hX; clear hX; go_simp; rfl); simp only [List.getElem_toArray, List.getElem_cons_succ, List.getElem_cons_zero, Act.put, List.setIfInBounds_toArray, List.set_cons_succ, List.set_cons_zero])
      (refine any_take 26 ?_ (by rfl) (by kernel_rfl) (fun _ _ _ _ _ hx => hx.elim) (.inl ⟨by rfl, ?_⟩) (by exact bel_of) ?_; rotate_left; (intro X hX; obtain ⟨r1, r2⟩ := Below.rules hX; clear hX; go_simp; rfl); simp only [List.getElem_toArray, List.getElem_cons_succ, List.getElem_cons_zero, Act.put, List.setIfInBounds_toArray, List.set_cons_succ, List.set_cons_zero])
      (refine any_take 27 ?_ (by rfl) (by kernel_rfl) (fun _ _ _ _ _ hx => hx.elim) (.inl ⟨by rfl, ?_⟩) (by exact bel_of) ?_; rotate_left; (intro X hX; obtain ⟨r1, r2⟩ := Below.rules hX; clear hX; go_simp; rfl); simp only [List.getElem_toArray, List.getElem_cons_succ, List.getElem_cons_zero, Act.put, List.setIfInBounds_toArray, List.set_cons_succ, List.set_cons_zero])
      (refine any_take 28 ?_ (by rfl) (by kernel_rfl) (fun _ _ _ _ _ hx => hx.elim) (.inl ⟨by rfl, ?_⟩) (by exact bel_of) ?_; rotate_left; (intro X hX; obtain ⟨r1, r2⟩ := Below.rules hX; clear hX; go_simp; rfl); simp only [List.getElem_toArray, List.getElem_cons_succ, List.getElem_cons_zero, Act.put, List.setIfInBounds_toArray, List.set_cons_succ, List.set_cons_zero])
      (refine any_take 29 ?_ (by rfl) (by kernel_rfl) (fun _ _ _ _ _ hx => hx.elim) (.inl ⟨by rfl, ?_⟩) (by exact bel_of) ?_; rotate_left; (intro X hX; obtain ⟨r1, r2⟩ := Below.rules hX; clear hX; go_simp; rfl); simp only [List.getElem_toArray, List.getElem_cons_succ, List.getElem_cons_zero, Act.put, List.setIfInBounds_toArray, List.set_cons_succ, List.set_cons_zero])
      (refine any_take 30 ?_ (by rfl) (by kernel_rfl) (fun _ _ _ _ _ hx => hx.elim) (.inl ⟨by rfl, ?_⟩) (by exact bel_of) ?_; rotate_left; (intro X hX; obtain ⟨r1, r2⟩ := Below.rules hX; clear hX; go_simp; rfl); simp only [List.getElem_toArray, List.getElem_cons_succ, List.getElem_cons_zero, Act.put, List.setIfInBounds_toArray, List.set_cons_succ, List.set_cons_zero])
      (refine any_take 31 ?_ (by rfl) (by kernel_rfl) (fun _ _ _ _ _ hx => hx.elim) (.inl ⟨by rfl, ?_⟩) (by exact bel_of) ?_; rotate_left; (intro X hX; obtain ⟨r1, r2⟩ := Below.rules hX; clear hX; go_simp; rfl); simp only [List.getElem_toArray, List.getElem_cons_succ, List.getElem_cons_zero, Act.put, List.setIfInBounds_toArray, List.set_cons_succ, List.set_cons_zero])
      (refine any_take 32 ?_ (by rfl) (by kernel_rfl) (fun _ _ _ _ _ hx => hx.elim) (.inl ⟨by rfl, ?_⟩) (by exact bel_of) ?_; rotate_left; (intro X hX; obtain ⟨r1, r2⟩ := Below.rules hX; clear hX; go_simp; rfl); simp only [List.getElem_toArray, List.getElem_cons_succ, List.getElem_cons_zero, Act.put, List.setIfInBounds_toArray, List.set_cons_succ, List.set_cons_zero])
      (refine any_take 33 ?_ (by rfl) (by kernel_rfl) (fun _ _ _ _ _ hx => hx.elim) (.inl ⟨by rfl, ?_⟩) (by exact bel_of) ?_; rotate_left; (intro X hX; obtain ⟨r1, r2⟩ := Below.rules hX; clear hX; go_simp; rfl); simp only [List.getElem_toArray, List.getElem_cons_succ, List.getElem_cons_zero, Act.put, List.setIfInBounds_toArray, List.set_cons_succ, List.set_cons_zero])
      (refine any_take 34 ?_ (by rfl) (by kernel_rfl) (fun _ _ _ _ _ hx => hx.elim) (.inl ⟨by rfl, ?_⟩) (by exact bel_of) ?_; rotate_left; (intro X hX; obtain ⟨r1, r2⟩ := Below.rules hX; clear hX; go_simp; rfl); simp only [List.getElem_toArray, List.getElem_cons_succ, List.getElem_cons_zero, Act.put, List.setIfInBounds_toArray, List.set_cons_succ, List.set_cons_zero])
      (refine any_take 35 undef (by rfl) (by kernel_rfl) (fun _ _ _ _ _ hx => hx.elim) (.inr ⟨by rfl, by rfl⟩) (by exact bel_of) ?_; simp only [List.getElem_toArray, List.getElem_cons_succ, List.getElem_cons_zero, Act.put, List.setIfInBounds_toArray, List.set_cons_succ, List.set_cons_zero])
      (refine any_take 36 undef (by rfl) (by kernel_rfl) (fun _ _ _ _ _ hx => hx.elim) (.inr ⟨by rfl, by rfl⟩) (by exact bel_of) ?_; simp only [List.getElem_toArray, List.getElem_cons_succ, List.getElem_cons_zero, Act.put, List.setIfInBounds_toArray, List.set_cons_succ, List.set_cons_zero])
      (refine any_take 37 undef (by rfl) (by kernel_rfl) (fun _ _ _ _ _ hx => hx.elim) (.inr ⟨by rfl, by rfl⟩) (by exact bel_of) ?_; simp only [List.getElem_toArray, List.getElem_cons_succ, List.getElem_cons_zero, Act.put, List.setIfInBounds_toArray, List.set_cons_succ, List.set_cons_zero])
      (refine any_take 38 undef (by rfl) (by kernel_rfl) (fun _ _ _ _ _ hx => hx.elim) (.inr ⟨by rfl, by rfl⟩) (by exact bel_of) ?_; simp only [List.getElem_toArray, List.getElem_cons_succ, List.getElem_cons_zero, Act.put, List.setIfInBounds_toArray, List.set_cons_succ, List.set_cons_zero])
      (refine any_take 39 undef (by rfl) (by kernel_rfl) (fun _ _ _ _ _ hx => hx.elim) (.inr ⟨by rfl, by rfl⟩) (by exact bel_of) ?_; simp only [List.getElem_toArray, List.getElem_cons_succ, List.getElem_cons_zero, Act.put, List.setIfInBounds_toArray, List.set_cons_succ, List.set_cons_zero])
      (refine any_take 40 undef (by rfl) (by kernel_rfl) (fun _ _ _ _ _ hx => hx.elim) (.inr ⟨by rfl, by rfl⟩) (by exact bel_of) ?_; simp only [List.getElem_toArray, List.getElem_cons_succ, List.getElem_cons_zero, Act.put, List.setIfInBounds_toArray, List.set_cons_succ, List.set_cons_zero])
      (refine any_take 41 undef (by rfl) (by kernel_rfl) (fun _ _ _ _ _ hx => hx.elim) (.inr ⟨by rfl, by rfl⟩) (by exact bel_of) ?_; simp only [List.getElem_toArray, List.getElem_cons_succ, List.getElem_cons_zero, Act.put, List.setIfInBounds_toArray, List.set_cons_succ, List.set_cons_zero])
      (refine any_take 42 undef (by rfl) (by kernel_rfl) (fun _ _ _ _ _ hx => hx.elim) (.inr ⟨by rfl, by rfl⟩) (by exact bel_of) ?_; simp only [List.getElem_toArray, List.getElem_cons_succ, List.getElem_cons_zero, Act.put, List.setIfInBounds_toArray, List.set_cons_succ, List.set_cons_zero])
      (refine any_take 43 undef (by rfl) (by kernel_rfl) (fun _ _ _ _ _ hx => hx.elim) (.inr ⟨by rfl, by rfl⟩) (by exact bel_of) ?_; simp only [List.getElem_toArray, List.getElem_cons_succ, List.getElem_cons_zero, Act.put, List.setIfInBounds_toArray, List.set_cons_succ, List.set_cons_zero])
      (refine any_take 44 undef (by rfl) (by kernel_rfl) (fun _ _ _ _ _ hx => hx.elim) (.inr ⟨by rfl, by rfl⟩) (by exact bel_of) ?_; simp only [List.getElem_toArray, List.getElem_cons_succ, List.getElem_cons_zero, Act.put, List.setIfInBounds_toArray, List.set_cons_succ, List.set_cons_zero])
      (refine any_take 45 undef (by rfl) (by kernel_rfl) (fun _ _ _ _ _ hx => hx.elim) (.inr ⟨by rfl, by rfl⟩) (by exact bel_of) ?_; simp only [List.getElem_toArray, List.getElem_cons_succ, List.getElem_cons_zero, Act.put, List.setIfInBounds_toArray, List.set_cons_succ, List.set_cons_zero])
      (refine any_take 46 undef (by rfl) (by kernel_rfl) (fun _ _ _ _ _ hx => hx.elim) (.inr ⟨by rfl, by rfl⟩) (by exact bel_of) ?_; simp only [List.getElem_toArray, List.getElem_cons_succ, List.getElem_cons_zero, Act.put, List.setIfInBounds_toArray, List.set_cons_succ, List.set_cons_zero])
      (refine any_take 47 undef (by rfl) (by kernel_rfl) (fun _ _ _ _ _ hx => hx.elim) (.inr ⟨by rfl, by rfl⟩) (by exact bel_of) ?_; simp only [List.getElem_toArray, List.getElem_cons_succ, List.getElem_cons_zero, Act.put, List.setIfInBounds_toArray, List.set_cons_succ, List.set_cons_zero])
      (refine any_take 48 undef (by rfl) (by kernel_rfl) (fun _ _ _ _ _ hx => hx.elim) (.inr ⟨by rfl, by rfl⟩) (by exact bel_of) ?_; simp only [List.getElem_toArray, List.getElem_cons_succ, List.getElem_cons_zero, Act.put, List.setIfInBounds_toArray, List.set_cons_succ, List.set_cons_zero])
      (refine any_take 49 undef (by rfl) (by kernel_rfl) (fun _ _ _ _ _ hx => hx.elim) (.inr ⟨by rfl, by rfl⟩) (by exact bel_of) ?_; simp only [List.getElem_toArray, List.getElem_cons_succ, List.getElem_cons_zero, Act.put, List.setIfInBounds_toArray, List.set_cons_succ, List.set_cons_zero])
      (refine any_take 50 undef (by rfl) (by kernel_rfl) (fun _ _ _ _ _ hx => hx.elim) (.inr ⟨by rfl, by rfl⟩) (by exact bel_of) ?_; simp only [List.getElem_toArray, List.getElem_cons_succ, List.getElem_cons_zero, Act.put, List.setIfInBounds_toArray, List.set_cons_succ, List.set_cons_zero])
      (refine any_take 51 undef (by rfl) (by kernel_rfl) (fun _ _ _ _ _ hx => hx.elim) (.inr ⟨by rfl, by rfl⟩) (by exact bel_of) ?_; simp only [List.getElem_toArray, List.getElem_cons_succ, List.getElem_cons_zero, Act.put, List.setIfInBounds_toArray, List.set_cons_succ, List.set_cons_zero])
      (refine any_take 52 undef (by rfl) (by kernel_rfl) (fun _ _ _ _ _ hx => hx.elim) (.inr ⟨by rfl, by rfl⟩) (by exact bel_of) ?_; simp only [List.getElem_toArray, List.getElem_cons_succ, List.getElem_cons_zero, Act.put, List.setIfInBounds_toArray, List.set_cons_succ, List.set_cons_zero])
      (refine any_take 53 undef (by rfl) (by kernel_rfl) (fun _ _ _ _ _ hx => hx.elim) (.inr ⟨by rfl, by rfl⟩) (by exact bel_of) ?_; simp only [List.getElem_toArray, List.getElem_cons_succ, List.getElem_cons_zero, Act.put, List.setIfInBounds_toArray, List.set_cons_succ, List.set_cons_zero])
      (refine any_take 54 undef (by rfl) (by kernel_rfl) (fun _ _ _ _ _ hx => hx.elim) (.inr ⟨by rfl, by rfl⟩) (by exact bel_of) ?_; simp only [List.getElem_toArray, List.getElem_cons_succ, List.getElem_cons_zero, Act.put, List.setIfInBounds_toArray, List.set_cons_succ, List.set_cons_zero])
      (refine any_take 55 ?_ (by rfl) (by kernel_rfl) (fun _ _ _ _ _ hx => hx.elim) (.inl ⟨by rfl, ?_⟩) (by exact bel_of) ?_; rotate_left; (intro X hX; obtain ⟨r1, r2⟩ := Below.rules hX; clear hX; go_simp; rfl); simp only [List.getElem_toArray, List.getElem_cons_succ, List.getElem_cons_zero, Act.put, List.setIfInBounds_toArray, List.set_cons_succ, List.set_cons_zero])
      (refine any_take 56 ?_ (by rfl) (by kernel_rfl) (fun _ _ _ _ _ hx => hx.elim) (.inl ⟨by rfl, ?_⟩) (by exact bel_of) ?_; rotate_left; (intro X hX; obtain ⟨r1, r2⟩ := Below.rules hX; clear hX; go_simp; rfl); simp only [List.getElem_toArray, List.getElem_cons_succ, List.getElem_cons_zero, Act.put, List.setIfInBounds_toArray, List.set_cons_succ, List.set_cons_zero])
      refine any_done (by kernel_rfl) (NoPanic.normal ?_)
      have hb := d0z
      replace hC : Below n0 w Wr5.drew := hC.trans (hb.mono (by have := hC.size; omega))
      replace hR := (RS.below hR hb).more hb.size
      replace hu := (RS.below hu hb).more hb.size
      replace bx := bx.below hb bx.lt
      replace b2 := b2.below hb b2.lt
      replace xx := xx.below hb xx.lt
      replace yy := yy.below hb yy.lt
      replace hX := (RS.below hX hb).more hb.size
      replace hY := (RS.below hY hb).more hb.size
      replace r1 := r1.below hb r1.lt
      replace r2 := r2.below hb r2.lt
      replace r3 := r3.below hb r3.lt
      replace r4 := r4.below hb r4.lt
      replace r5 := r5.below hb r5.lt
      clear hb
      clear lr1 r1c0 r1c1
      clear lr2 r2c0 r2c1
      clear lr3 r3c0 r3c1
      clear lr4 r4c0 r4c1
      clear lr5 r5c0 r5c1
      have lbx := bx.lt
      have bxc0 := bx.cell 0
      have bxc1 := bx.cell 1
      simp at bxc0 bxc1
      have lxx := xx.lt
      have xxc0 := xx.cell 0
      have xxc1 := xx.cell 1
      simp at xxc0 xxc1
      have lyy := yy.lt
      have yyc0 := yy.cell 0
      have yyc1 := yy.cell 1
      simp at yyc0 yyc1
      go_wp2_with fail
      clear lbx bxc0 bxc1
      clear lxx xxc0 xxc1
      clear lyy yyc0 yyc1
      refine (refTruth_any N ts l _ _ _ (by omega) (by omega) hR hu).mono ?_
      rintro e w8 ⟨rfl, hb⟩
      replace hC : Below n0 w w8 := hC.trans (hb.mono (by have := hC.size; omega))
      replace hR := (RS.below hR hb).more hb.size
      replace hu := (RS.below hu hb).more hb.size
      replace bx := bx.below hb bx.lt
      replace b2 := b2.below hb b2.lt
      replace xx := xx.below hb xx.lt
      replace yy := yy.below hb yy.lt
      replace hX := (RS.below hX hb).more hb.size
      replace hY := (RS.below hY hb).more hb.size
      replace r1 := r1.below hb r1.lt
      replace r2 := r2.below hb r2.lt
      replace r3 := r3.below hb r3.lt
      replace r4 := r4.below hb r4.lt
      replace r5 := r5.below hb r5.lt
      clear hb
      obtain ⟨e, he⟩ : ∃ e, truthE N ts l = e := ⟨_, rfl⟩
      rw [he]
      have HE := Lib.hid he
      clear he
      have h0 : e ≠ 0 := by rintro rfl; exact HA.out ((agr_iff HO.out).2 ⟨_, Tru.pot HO.out ((truth_iff HBK.out).1 HE.out)⟩)
      have b1 : (e != 0) = true := by simp [h0]
      have b1' : (e == 0) = false := by simp [h0]
      have HN := Lib.hid h0
      have lbx := bx.lt
      have bxc0 := bx.cell 0
      have bxc1 := bx.cell 1
      simp at bxc0 bxc1
      have lxx := xx.lt
      have xxc0 := xx.cell 0
      have xxc1 := xx.cell 1
      simp at xxc0 xxc1
      have lyy := yy.lt
      have yyc0 := yy.cell 0
      have yyc1 := yy.cell 1
      simp at yyc0 yyc1
      go_wp2_with fail
      clear lbx bxc0 bxc1
      clear lxx xxc0 xxc1
      clear lyy yyc0 yyc1
      refine (checkTruth_any N ts l _ _ _ (by omega) (by omega) hR hu).mono ?_
      rintro e w9 ⟨rfl, hb⟩
      replace hC : Below n0 w w9 := hC.trans (hb.mono (by have := hC.size; omega))
      replace hR := (RS.below hR hb).more hb.size
      replace hu := (RS.below hu hb).more hb.size
      replace bx := bx.below hb bx.lt
      replace b2 := b2.below hb b2.lt
      replace xx := xx.below hb xx.lt
      replace yy := yy.below hb yy.lt
      replace hX := (RS.below hX hb).more hb.size
      replace hY := (RS.below hY hb).more hb.size
      replace r1 := r1.below hb r1.lt
      replace r2 := r2.below hb r2.lt
      replace r3 := r3.below hb r3.lt
      replace r4 := r4.below hb r4.lt
      replace r5 := r5.below hb r5.lt
      clear hb
      rw [HE.out]
      have lbx := bx.lt
      have bxc0 := bx.cell 0
      have bxc1 := bx.cell 1
      simp at bxc0 bxc1
      have lxx := xx.lt
      have xxc0 := xx.cell 0
      have xxc1 := xx.cell 1
      simp at xxc0 xxc1
      have lyy := yy.lt
      have yyc0 := yy.cell 0
      have yyc1 := yy.cell 1
      simp at yyc0 yyc1
      go_wp2_with fail
      clear lbx bxc0 bxc1
      clear lxx xxc0 xxc1
      clear lyy yyc0 yyc1
      refine (checkTruth_any N (turnY ts) l _ _ _ (by have := HLY.out; omega) (by omega) hY hu).mono ?_
      rintro e w10 ⟨rfl, hb⟩
      replace hC : Below n0 w w10 := hC.trans (hb.mono (by have := hC.size; omega))
      replace hR := (RS.below hR hb).more hb.size
      replace hu := (RS.below hu hb).more hb.size
      replace bx := bx.below hb bx.lt
      replace b2 := b2.below hb b2.lt
      replace xx := xx.below hb xx.lt
      replace yy := yy.below hb yy.lt
      replace hX := (RS.below hX hb).more hb.size
      replace hY := (RS.below hY hb).more hb.size
      replace r1 := r1.below hb r1.lt
      replace r2 := r2.below hb r2.lt
      replace r3 := r3.below hb r3.lt
      replace r4 := r4.below hb r4.lt
      replace r5 := r5.below hb r5.lt
      clear hb
      have h2 : truthE N (turnY ts) l ≠ 0 := fun h => HN.out (by rw [← HE.out]; exact (truth_iff HBK.out).2 (tru_turnY.1 ((truth_iff HBY.out).1 h)))
      generalize truthE N (turnY ts) l = e2 at *
      have q2 : (e2 != 0) = true := by simp [h2]
      have b2' : (e2 == 0) = false := by simp [h2]
      go_wp2_with fail
      refine (works_any _).mono ?_
      rintro e w11 ⟨rfl, hb⟩
      replace hC : Below n0 w w11 := hC.trans (hb.mono (by have := hC.size; omega))
      replace hR := (RS.below hR hb).more hb.size
      replace hu := (RS.below hu hb).more hb.size
      replace bx := bx.below hb bx.lt
      replace b2 := b2.below hb b2.lt
      replace xx := xx.below hb xx.lt
      replace yy := yy.below hb yy.lt
      replace hX := (RS.below hX hb).more hb.size
      replace hY := (RS.below hY hb).more hb.size
      replace r1 := r1.below hb r1.lt
      replace r2 := r2.below hb r2.lt
      replace r3 := r3.below hb r3.lt
      replace r4 := r4.below hb r4.lt
      replace r5 := r5.below hb r5.lt
      clear hb
      go_wp2_with fail
      exact bodyPost_ret (v := .bool true) (by simp [results, Try.results15, go_sem, b1, b1', q2, h2]) rfl ⟨rfl, by first | exact hC | (rw [hn0]; exact hC) | (with_reducible rw [hn0]; exact bel_of) | exact bel_of⟩
    have HA := Lib.hid ha
    have HAX := Lib.hid ((agr_turnX HO.out).2 ha)
    have HAY := Lib.hid ((agr_turnY HO.out).2 ha)
    clear ha
    have e1 := D_turnX HO.out HA.out haN hzN
    have e2 := D_turnX HO.out HA.out hzN haN
    have e3 := D_turnY HO.out HA.out (show a ≤ N by omega) (show z ≤ N by omega)
    have e4 := D_turnY HO.out HA.out (show z ≤ N by omega) (show a ≤ N by omega)
    have e5 := D_turnX_lo HO.out HA.out haN
    have e6 := D_turnX_hi HO.out HA.out haN
    have r1 := D_rng HO.out HA.out (show a ≤ N by omega) (show z ≤ N by omega)
    have r2 := D_rng HO.out HA.out (show z ≤ N by omega) (show a ≤ N by omega)
    have r3 := D_rng HO.out HA.out (show a ≤ N by omega) (show N ≤ N by omega)
    have r4 := D_rng HO.out HA.out (show N ≤ N by omega) (show a ≤ N by omega)
    obtain ⟨x1, hx1⟩ : ∃ x, -D N ts a z = x := ⟨_, rfl⟩
    obtain ⟨y1, hy1⟩ : ∃ x, D N ts z a = x := ⟨_, rfl⟩
    obtain ⟨p1, hp1⟩ : ∃ x, -D N ts a N = x := ⟨_, rfl⟩
    obtain ⟨q1, hq1⟩ : ∃ x, D N ts N a = x := ⟨_, rfl⟩
    obtain ⟨s1, hs1⟩ : ∃ x, -y1 = x := ⟨_, rfl⟩
    obtain ⟨s2, hs2⟩ : ∃ x, -x1 = x := ⟨_, rfl⟩
    obtain ⟨s3, hs3⟩ : ∃ x, 1000 - q1 = x := ⟨_, rfl⟩
    obtain ⟨s4, hs4⟩ : ∃ x, 1000 - p1 = x := ⟨_, rfl⟩
    have H1 := Lib.hid hx1
    have H2 := Lib.hid hy1
    have H3 := Lib.hid hp1
    have H4 := Lib.hid hq1
    have H5 := Lib.hid (show -D N (turnX ts) a z = s1 by omega)
    have H6 := Lib.hid (show D N (turnX ts) z a = s2 by omega)
    have H7 := Lib.hid (show -D N (turnY ts) a z = x1 by omega)
    have H8 := Lib.hid (show D N (turnY ts) z a = y1 by omega)
    have H9 := Lib.hid (show -D N (turnX ts) a N = s3 by omega)
    have H10 := Lib.hid (show D N (turnX ts) N a = s4 by omega)
    have w1 : IntKind.i64.wrap (-y1) = s1 := by rw [IntKind.wrap_i64]; omega
    have w2' : IntKind.i64.wrap (-x1) = s2 := by rw [IntKind.wrap_i64]; omega
    have w3' : IntKind.i64.wrap (1000 - q1) = s3 := by rw [IntKind.wrap_i64]; omega
    have w4' : IntKind.i64.wrap (1000 - p1) = s4 := by rw [IntKind.wrap_i64]; omega
    clear e1 e2 e3 e4 e5 e6 r1 r2 r3 r4 hx1 hy1 hp1 hq1 hs1 hs2 hs3 hs4
    refine (spanN_any (u := a) (z := z) _ _ HBK.out HA.out haN hzN hne (by omega) hR).mono ?_
    rintro e w3 ⟨rfl, hb⟩
    replace hC : Below n0 w w3 := hC.trans (hb.mono (by have := hC.size; omega))
    replace hR := (RS.below hR hb).more hb.size
    replace hu := (RS.below hu hb).more hb.size
    replace bx := bx.below hb bx.lt
    replace b2 := b2.below hb b2.lt
    replace xx := xx.below hb xx.lt
    replace yy := yy.below hb yy.lt
    replace hX := (RS.below hX hb).more hb.size
    replace hY := (RS.below hY hb).more hb.size
    clear hb
    rw [H1.out, H2.out]
    have lbx := bx.lt
    have bxc0 := bx.cell 0
    have bxc1 := bx.cell 1
    simp at bxc0 bxc1
    have lxx := xx.lt
    have xxc0 := xx.cell 0
    have xxc1 := xx.cell 1
    simp at xxc0 xxc1
    have lyy := yy.lt
    have yyc0 := yy.cell 0
    have yyc1 := yy.cell 1
    simp at yyc0 yyc1
    go_wp2_with fail
    clear lbx bxc0 bxc1
    clear lxx xxc0 xxc1
    clear lyy yyc0 yyc1
    obtain ⟨m7, hm7⟩ : ∃ n, w3.heap.size = n := ⟨_, rfl⟩
    try rw [hm7]
    have hqr1 : n0 ≤ m7 := by have := hC.size; omega
    have r1 : BK (w3.alloc (.cells #[.int .i64 x1, .int .i64 y1] 36)) (m7) #[.int .i64 x1, .int .i64 y1] 36 := BK.new' _ _ _ (m7) hm7
    have hsr1 : (w3.alloc (.cells #[.int .i64 x1, .int .i64 y1] 36)).heap.size = m7 + 1 := by simp [hm7]
    replace hC : Below n0 w (w3.alloc (.cells #[.int .i64 x1, .int .i64 y1] 36)) := Below.alloc hC (by have := hC.size; omega) _
    replace hR := (RS.below hR (w' := (w3.alloc (.cells #[.int .i64 x1, .int .i64 y1] 36))) (Below.alloc (Below.refl _ _) (Nat.le_refl _) _)).more (B' := (w3.alloc (.cells #[.int .i64 x1, .int .i64 y1] 36)).heap.size) (by simp)
    replace hu := (RS.below hu (w' := (w3.alloc (.cells #[.int .i64 x1, .int .i64 y1] 36))) (Below.alloc (Below.refl _ _) (Nat.le_refl _) _)).more (B' := (w3.alloc (.cells #[.int .i64 x1, .int .i64 y1] 36)).heap.size) (by simp)
    replace bx := bx.alloc (.cells #[.int .i64 x1, .int .i64 y1] 36)
    replace b2 := b2.alloc (.cells #[.int .i64 x1, .int .i64 y1] 36)
    replace xx := xx.alloc (.cells #[.int .i64 x1, .int .i64 y1] 36)
    replace yy := yy.alloc (.cells #[.int .i64 x1, .int .i64 y1] 36)
    replace hX := (RS.below hX (w' := (w3.alloc (.cells #[.int .i64 x1, .int .i64 y1] 36))) (Below.alloc (Below.refl _ _) (Nat.le_refl _) _)).more (B' := (w3.alloc (.cells #[.int .i64 x1, .int .i64 y1] 36)).heap.size) (by simp)
    replace hY := (RS.below hY (w' := (w3.alloc (.cells #[.int .i64 x1, .int .i64 y1] 36))) (Below.alloc (Below.refl _ _) (Nat.le_refl _) _)).more (B' := (w3.alloc (.cells #[.int .i64 x1, .int .i64 y1] 36)).heap.size) (by simp)
    generalize (w3.alloc (.cells #[.int .i64 x1, .int .i64 y1] 36)) = Wr1 at *
    clear hm7
    have lbx := bx.lt
    have bxc0 := bx.cell 0
    have bxc1 := bx.cell 1
    simp at bxc0 bxc1
    have lxx := xx.lt
    have xxc0 := xx.cell 0
    have xxc1 := xx.cell 1
    simp at xxc0 xxc1
    have lyy := yy.lt
    have yyc0 := yy.cell 0
    have yyc1 := yy.cell 1
    simp at yyc0 yyc1
    go_wp2_with fail
    clear lbx bxc0 bxc1
    clear lxx xxc0 xxc1
    clear lyy yyc0 yyc1
    clear hsr1
    refine (spanN_any (u := a) (z := z) _ _ HBX.out HAX.out haN hzN hne (by have := HLX.out; omega) hX).mono ?_
    rintro e w4 ⟨rfl, hb⟩
    replace hC : Below n0 w w4 := hC.trans (hb.mono (by have := hC.size; omega))
    replace hR := (RS.below hR hb).more hb.size
    replace hu := (RS.below hu hb).more hb.size
    replace bx := bx.below hb bx.lt
    replace b2 := b2.below hb b2.lt
    replace xx := xx.below hb xx.lt
    replace yy := yy.below hb yy.lt
    replace hX := (RS.below hX hb).more hb.size
    replace hY := (RS.below hY hb).more hb.size
    replace r1 := r1.below hb r1.lt
    clear hb
    rw [H5.out, H6.out]
    have lbx := bx.lt
    have bxc0 := bx.cell 0
    have bxc1 := bx.cell 1
    simp at bxc0 bxc1
    have lxx := xx.lt
    have xxc0 := xx.cell 0
    have xxc1 := xx.cell 1
    simp at xxc0 xxc1
    have lyy := yy.lt
    have yyc0 := yy.cell 0
    have yyc1 := yy.cell 1
    simp at yyc0 yyc1
    go_wp2_with fail
    clear lbx bxc0 bxc1
    clear lxx xxc0 xxc1
    clear lyy yyc0 yyc1
    obtain ⟨m8, hm8⟩ : ∃ n, w4.heap.size = n := ⟨_, rfl⟩
    try rw [hm8]
    have hqr2 : n0 ≤ m8 := by have := hC.size; omega
    have r2 : BK (w4.alloc (.cells #[.int .i64 s1, .int .i64 s2] 36)) (m8) #[.int .i64 s1, .int .i64 s2] 36 := BK.new' _ _ _ (m8) hm8
    have hsr2 : (w4.alloc (.cells #[.int .i64 s1, .int .i64 s2] 36)).heap.size = m8 + 1 := by simp [hm8]
    replace hC : Below n0 w (w4.alloc (.cells #[.int .i64 s1, .int .i64 s2] 36)) := Below.alloc hC (by have := hC.size; omega) _
    replace hR := (RS.below hR (w' := (w4.alloc (.cells #[.int .i64 s1, .int .i64 s2] 36))) (Below.alloc (Below.refl _ _) (Nat.le_refl _) _)).more (B' := (w4.alloc (.cells #[.int .i64 s1, .int .i64 s2] 36)).heap.size) (by simp)
    replace hu := (RS.below hu (w' := (w4.alloc (.cells #[.int .i64 s1, .int .i64 s2] 36))) (Below.alloc (Below.refl _ _) (Nat.le_refl _) _)).more (B' := (w4.alloc (.cells #[.int .i64 s1, .int .i64 s2] 36)).heap.size) (by simp)
    replace bx := bx.alloc (.cells #[.int .i64 s1, .int .i64 s2] 36)
    replace b2 := b2.alloc (.cells #[.int .i64 s1, .int .i64 s2] 36)
    replace xx := xx.alloc (.cells #[.int .i64 s1, .int .i64 s2] 36)
    replace yy := yy.alloc (.cells #[.int .i64 s1, .int .i64 s2] 36)
    replace hX := (RS.below hX (w' := (w4.alloc (.cells #[.int .i64 s1, .int .i64 s2] 36))) (Below.alloc (Below.refl _ _) (Nat.le_refl _) _)).more (B' := (w4.alloc (.cells #[.int .i64 s1, .int .i64 s2] 36)).heap.size) (by simp)
    replace hY := (RS.below hY (w' := (w4.alloc (.cells #[.int .i64 s1, .int .i64 s2] 36))) (Below.alloc (Below.refl _ _) (Nat.le_refl _) _)).more (B' := (w4.alloc (.cells #[.int .i64 s1, .int .i64 s2] 36)).heap.size) (by simp)
    replace r1 := r1.alloc (.cells #[.int .i64 s1, .int .i64 s2] 36)
    generalize (w4.alloc (.cells #[.int .i64 s1, .int .i64 s2] 36)) = Wr2 at *
    clear hm8
    have lbx := bx.lt
    have bxc0 := bx.cell 0
    have bxc1 := bx.cell 1
    simp at bxc0 bxc1
    have lxx := xx.lt
    have xxc0 := xx.cell 0
    have xxc1 := xx.cell 1
    simp at xxc0 xxc1
    have lyy := yy.lt
    have yyc0 := yy.cell 0
    have yyc1 := yy.cell 1
    simp at yyc0 yyc1
    go_wp2_with fail
    clear lbx bxc0 bxc1
    clear lxx xxc0 xxc1
    clear lyy yyc0 yyc1
    clear hsr2
    refine (spanN_any (u := a) (z := z) _ _ HBY.out HAY.out haN hzN hne (by have := HLY.out; omega) hY).mono ?_
    rintro e w5 ⟨rfl, hb⟩
    replace hC : Below n0 w w5 := hC.trans (hb.mono (by have := hC.size; omega))
    replace hR := (RS.below hR hb).more hb.size
    replace hu := (RS.below hu hb).more hb.size
    replace bx := bx.below hb bx.lt
    replace b2 := b2.below hb b2.lt
    replace xx := xx.below hb xx.lt
    replace yy := yy.below hb yy.lt
    replace hX := (RS.below hX hb).more hb.size
    replace hY := (RS.below hY hb).more hb.size
    replace r1 := r1.below hb r1.lt
    replace r2 := r2.below hb r2.lt
    clear hb
    rw [H7.out, H8.out]
    have lbx := bx.lt
    have bxc0 := bx.cell 0
    have bxc1 := bx.cell 1
    simp at bxc0 bxc1
    have lxx := xx.lt
    have xxc0 := xx.cell 0
    have xxc1 := xx.cell 1
    simp at xxc0 xxc1
    have lyy := yy.lt
    have yyc0 := yy.cell 0
    have yyc1 := yy.cell 1
    simp at yyc0 yyc1
    go_wp2_with fail
    clear lbx bxc0 bxc1
    clear lxx xxc0 xxc1
    clear lyy yyc0 yyc1
    obtain ⟨m9, hm9⟩ : ∃ n, w5.heap.size = n := ⟨_, rfl⟩
    try rw [hm9]
    have hqr3 : n0 ≤ m9 := by have := hC.size; omega
    have r3 : BK (w5.alloc (.cells #[.int .i64 x1, .int .i64 y1] 36)) (m9) #[.int .i64 x1, .int .i64 y1] 36 := BK.new' _ _ _ (m9) hm9
    have hsr3 : (w5.alloc (.cells #[.int .i64 x1, .int .i64 y1] 36)).heap.size = m9 + 1 := by simp [hm9]
    replace hC : Below n0 w (w5.alloc (.cells #[.int .i64 x1, .int .i64 y1] 36)) := Below.alloc hC (by have := hC.size; omega) _
    replace hR := (RS.below hR (w' := (w5.alloc (.cells #[.int .i64 x1, .int .i64 y1] 36))) (Below.alloc (Below.refl _ _) (Nat.le_refl _) _)).more (B' := (w5.alloc (.cells #[.int .i64 x1, .int .i64 y1] 36)).heap.size) (by simp)
    replace hu := (RS.below hu (w' := (w5.alloc (.cells #[.int .i64 x1, .int .i64 y1] 36))) (Below.alloc (Below.refl _ _) (Nat.le_refl _) _)).more (B' := (w5.alloc (.cells #[.int .i64 x1, .int .i64 y1] 36)).heap.size) (by simp)
    replace bx := bx.alloc (.cells #[.int .i64 x1, .int .i64 y1] 36)
    replace b2 := b2.alloc (.cells #[.int .i64 x1, .int .i64 y1] 36)
    replace xx := xx.alloc (.cells #[.int .i64 x1, .int .i64 y1] 36)
    replace yy := yy.alloc (.cells #[.int .i64 x1, .int .i64 y1] 36)
    replace hX := (RS.below hX (w' := (w5.alloc (.cells #[.int .i64 x1, .int .i64 y1] 36))) (Below.alloc (Below.refl _ _) (Nat.le_refl _) _)).more (B' := (w5.alloc (.cells #[.int .i64 x1, .int .i64 y1] 36)).heap.size) (by simp)
    replace hY := (RS.below hY (w' := (w5.alloc (.cells #[.int .i64 x1, .int .i64 y1] 36))) (Below.alloc (Below.refl _ _) (Nat.le_refl _) _)).more (B' := (w5.alloc (.cells #[.int .i64 x1, .int .i64 y1] 36)).heap.size) (by simp)
    replace r1 := r1.alloc (.cells #[.int .i64 x1, .int .i64 y1] 36)
    replace r2 := r2.alloc (.cells #[.int .i64 x1, .int .i64 y1] 36)
    generalize (w5.alloc (.cells #[.int .i64 x1, .int .i64 y1] 36)) = Wr3 at *
    clear hm9
    have lbx := bx.lt
    have bxc0 := bx.cell 0
    have bxc1 := bx.cell 1
    simp at bxc0 bxc1
    have lxx := xx.lt
    have xxc0 := xx.cell 0
    have xxc1 := xx.cell 1
    simp at xxc0 xxc1
    have lyy := yy.lt
    have yyc0 := yy.cell 0
    have yyc1 := yy.cell 1
    simp at yyc0 yyc1
    go_wp2_with fail
    clear lbx bxc0 bxc1
    clear lxx xxc0 xxc1
    clear lyy yyc0 yyc1
    clear hsr3
    refine (sharpN_any (u := a) _ _ HBK.out HA.out haN (by omega) hR).mono ?_
    rintro e w6 ⟨rfl, hb⟩
    replace hC : Below n0 w w6 := hC.trans (hb.mono (by have := hC.size; omega))
    replace hR := (RS.below hR hb).more hb.size
    replace hu := (RS.below hu hb).more hb.size
    replace bx := bx.below hb bx.lt
    replace b2 := b2.below hb b2.lt
    replace xx := xx.below hb xx.lt
    replace yy := yy.below hb yy.lt
    replace hX := (RS.below hX hb).more hb.size
    replace hY := (RS.below hY hb).more hb.size
    replace r1 := r1.below hb r1.lt
    replace r2 := r2.below hb r2.lt
    replace r3 := r3.below hb r3.lt
    clear hb
    rw [H3.out, H4.out]
    have lbx := bx.lt
    have bxc0 := bx.cell 0
    have bxc1 := bx.cell 1
    simp at bxc0 bxc1
    have lxx := xx.lt
    have xxc0 := xx.cell 0
    have xxc1 := xx.cell 1
    simp at xxc0 xxc1
    have lyy := yy.lt
    have yyc0 := yy.cell 0
    have yyc1 := yy.cell 1
    simp at yyc0 yyc1
    go_wp2_with fail
    clear lbx bxc0 bxc1
    clear lxx xxc0 xxc1
    clear lyy yyc0 yyc1
    obtain ⟨m10, hm10⟩ : ∃ n, w6.heap.size = n := ⟨_, rfl⟩
    try rw [hm10]
    have hqr4 : n0 ≤ m10 := by have := hC.size; omega
    have r4 : BK (w6.alloc (.cells #[.int .i64 p1, .int .i64 q1] 36)) (m10) #[.int .i64 p1, .int .i64 q1] 36 := BK.new' _ _ _ (m10) hm10
    have hsr4 : (w6.alloc (.cells #[.int .i64 p1, .int .i64 q1] 36)).heap.size = m10 + 1 := by simp [hm10]
    replace hC : Below n0 w (w6.alloc (.cells #[.int .i64 p1, .int .i64 q1] 36)) := Below.alloc hC (by have := hC.size; omega) _
    replace hR := (RS.below hR (w' := (w6.alloc (.cells #[.int .i64 p1, .int .i64 q1] 36))) (Below.alloc (Below.refl _ _) (Nat.le_refl _) _)).more (B' := (w6.alloc (.cells #[.int .i64 p1, .int .i64 q1] 36)).heap.size) (by simp)
    replace hu := (RS.below hu (w' := (w6.alloc (.cells #[.int .i64 p1, .int .i64 q1] 36))) (Below.alloc (Below.refl _ _) (Nat.le_refl _) _)).more (B' := (w6.alloc (.cells #[.int .i64 p1, .int .i64 q1] 36)).heap.size) (by simp)
    replace bx := bx.alloc (.cells #[.int .i64 p1, .int .i64 q1] 36)
    replace b2 := b2.alloc (.cells #[.int .i64 p1, .int .i64 q1] 36)
    replace xx := xx.alloc (.cells #[.int .i64 p1, .int .i64 q1] 36)
    replace yy := yy.alloc (.cells #[.int .i64 p1, .int .i64 q1] 36)
    replace hX := (RS.below hX (w' := (w6.alloc (.cells #[.int .i64 p1, .int .i64 q1] 36))) (Below.alloc (Below.refl _ _) (Nat.le_refl _) _)).more (B' := (w6.alloc (.cells #[.int .i64 p1, .int .i64 q1] 36)).heap.size) (by simp)
    replace hY := (RS.below hY (w' := (w6.alloc (.cells #[.int .i64 p1, .int .i64 q1] 36))) (Below.alloc (Below.refl _ _) (Nat.le_refl _) _)).more (B' := (w6.alloc (.cells #[.int .i64 p1, .int .i64 q1] 36)).heap.size) (by simp)
    replace r1 := r1.alloc (.cells #[.int .i64 p1, .int .i64 q1] 36)
    replace r2 := r2.alloc (.cells #[.int .i64 p1, .int .i64 q1] 36)
    replace r3 := r3.alloc (.cells #[.int .i64 p1, .int .i64 q1] 36)
    generalize (w6.alloc (.cells #[.int .i64 p1, .int .i64 q1] 36)) = Wr4 at *
    clear hm10
    have lbx := bx.lt
    have bxc0 := bx.cell 0
    have bxc1 := bx.cell 1
    simp at bxc0 bxc1
    have lxx := xx.lt
    have xxc0 := xx.cell 0
    have xxc1 := xx.cell 1
    simp at xxc0 xxc1
    have lyy := yy.lt
    have yyc0 := yy.cell 0
    have yyc1 := yy.cell 1
    simp at yyc0 yyc1
    go_wp2_with fail
    clear lbx bxc0 bxc1
    clear lxx xxc0 xxc1
    clear lyy yyc0 yyc1
    clear hsr4
    refine (sharpN_any (u := a) _ _ HBX.out HAX.out haN (by have := HLX.out; omega) hX).mono ?_
    rintro e w7 ⟨rfl, hb⟩
    replace hC : Below n0 w w7 := hC.trans (hb.mono (by have := hC.size; omega))
    replace hR := (RS.below hR hb).more hb.size
    replace hu := (RS.below hu hb).more hb.size
    replace bx := bx.below hb bx.lt
    replace b2 := b2.below hb b2.lt
    replace xx := xx.below hb xx.lt
    replace yy := yy.below hb yy.lt
    replace hX := (RS.below hX hb).more hb.size
    replace hY := (RS.below hY hb).more hb.size
    replace r1 := r1.below hb r1.lt
    replace r2 := r2.below hb r2.lt
    replace r3 := r3.below hb r3.lt
    replace r4 := r4.below hb r4.lt
    clear hb
    rw [H9.out, H10.out]
    have lbx := bx.lt
    have bxc0 := bx.cell 0
    have bxc1 := bx.cell 1
    simp at bxc0 bxc1
    have lxx := xx.lt
    have xxc0 := xx.cell 0
    have xxc1 := xx.cell 1
    simp at xxc0 xxc1
    have lyy := yy.lt
    have yyc0 := yy.cell 0
    have yyc1 := yy.cell 1
    simp at yyc0 yyc1
    go_upto_region 17 with fail
    clear lbx bxc0 bxc1
    clear lxx xxc0 xxc1
    clear lyy yyc0 yyc1
    obtain ⟨m11, hm11⟩ : ∃ n, w7.heap.size = n := ⟨_, rfl⟩
    try rw [hm11]
    have hqr5 : n0 ≤ m11 := by have := hC.size; omega
    have r5 : BK (w7.alloc (.cells #[.int .i64 s3, .int .i64 s4] 36)) (m11) #[.int .i64 s3, .int .i64 s4] 36 := BK.new' _ _ _ (m11) hm11
    have hsr5 : (w7.alloc (.cells #[.int .i64 s3, .int .i64 s4] 36)).heap.size = m11 + 1 := by simp [hm11]
    replace hC : Below n0 w (w7.alloc (.cells #[.int .i64 s3, .int .i64 s4] 36)) := Below.alloc hC (by have := hC.size; omega) _
    replace hR := (RS.below hR (w' := (w7.alloc (.cells #[.int .i64 s3, .int .i64 s4] 36))) (Below.alloc (Below.refl _ _) (Nat.le_refl _) _)).more (B' := (w7.alloc (.cells #[.int .i64 s3, .int .i64 s4] 36)).heap.size) (by simp)
    replace hu := (RS.below hu (w' := (w7.alloc (.cells #[.int .i64 s3, .int .i64 s4] 36))) (Below.alloc (Below.refl _ _) (Nat.le_refl _) _)).more (B' := (w7.alloc (.cells #[.int .i64 s3, .int .i64 s4] 36)).heap.size) (by simp)
    replace bx := bx.alloc (.cells #[.int .i64 s3, .int .i64 s4] 36)
    replace b2 := b2.alloc (.cells #[.int .i64 s3, .int .i64 s4] 36)
    replace xx := xx.alloc (.cells #[.int .i64 s3, .int .i64 s4] 36)
    replace yy := yy.alloc (.cells #[.int .i64 s3, .int .i64 s4] 36)
    replace hX := (RS.below hX (w' := (w7.alloc (.cells #[.int .i64 s3, .int .i64 s4] 36))) (Below.alloc (Below.refl _ _) (Nat.le_refl _) _)).more (B' := (w7.alloc (.cells #[.int .i64 s3, .int .i64 s4] 36)).heap.size) (by simp)
    replace hY := (RS.below hY (w' := (w7.alloc (.cells #[.int .i64 s3, .int .i64 s4] 36))) (Below.alloc (Below.refl _ _) (Nat.le_refl _) _)).more (B' := (w7.alloc (.cells #[.int .i64 s3, .int .i64 s4] 36)).heap.size) (by simp)
    replace r1 := r1.alloc (.cells #[.int .i64 s3, .int .i64 s4] 36)
    replace r2 := r2.alloc (.cells #[.int .i64 s3, .int .i64 s4] 36)
    replace r3 := r3.alloc (.cells #[.int .i64 s3, .int .i64 s4] 36)
    replace r4 := r4.alloc (.cells #[.int .i64 s3, .int .i64 s4] 36)
    generalize (w7.alloc (.cells #[.int .i64 s3, .int .i64 s4] 36)) = Wr5 at *
    clear hm11
    have lr1 := r1.lt
    have r1c0 := r1.cell 0
    have r1c1 := r1.cell 1
    simp at r1c0 r1c1
    have lr2 := r2.lt
    have r2c0 := r2.cell 0
    have r2c1 := r2.cell 1
    simp at r2c0 r2c1
    have lr3 := r3.lt
    have r3c0 := r3.cell 0
    have r3c1 := r3.cell 1
    simp at r3c0 r3c1
    have lr4 := r4.lt
    have r4c0 := r4.cell 0
    have r4c1 := r4.cell 1
    simp at r4c0 r4c1
    have lr5 := r5.lt
    have r5c0 := r5.cell 0
    have r5c1 := r5.cell 1
    simp at r5c0 r5c1
    try simp only [List.append_eq, List.cons_append, List.nil_append]
    clear hsr5
    refine wp_region_noPanic (plain_any [0, 1, 2, 3, 4, 5, 6, 7, 8, 9, 10, 11, 12, 13, 14, 15, 16, 17, 18, 19, 20, 21, 22, 23, 24, 25, 26, 27, 28, 29, 30, 31, 32, 33, 34, 35, 36, 37, 38, 39, 40, 41, 43, 44, 45, 46, 47, 48, 49, 50, 51, 53, 54, 55, 56] (Below Wr5.heap.size Wr5) mixed ?_)
    (refine any_take 0 ?_ (by rfl) (by kernel_rfl) (fun _ _ _ _ _ hx => hx.elim) (.inl ⟨by rfl, ?_⟩) (by exact bel_of) ?_; rotate_left; (intro X hX; obtain ⟨r1, r2⟩ := Below.rules hX; clear hX; go_simp; rfl); simp only [List.getElem_toArray, List.getElem_cons_succ, List.getElem_cons_zero, Act.put, List.setIfInBounds_toArray, List.set_cons_succ, List.set_cons_zero])
    have d0z : Below Wr5.heap.size Wr5 Wr5.drew := by exact bel_of
    (refine any_take 1 ?_ (by rfl) (by kernel_rfl) (fun _ _ _ _ _ hx => hx.elim) (.inl ⟨by rfl, ?_⟩) (by exact bel_of) ?_; rotate_left; (intro X hX; obtain ⟨r1, r2⟩ := Below.rules hX; clear hX; go_simp; rfl); simp only [List.getElem_toArray, List.getElem_cons_succ, List.getElem_cons_zero, Act.put, List.setIfInBounds_toArray, List.set_cons_succ, List.set_cons_zero])
    (refine any_take 2 ?_ (by rfl) (by kernel_rfl) (fun _ _ _ _ _ hx => hx.elim) (.inl ⟨by rfl, ?_⟩) (by exact bel_of) ?_; rotate_left; (intro X hX; obtain ⟨r1, r2⟩ := Below.rules hX; clear hX; go_simp; rfl); simp only [List.getElem_toArray, List.getElem_cons_succ, List.getElem_cons_zero, Act.put, List.setIfInBounds_toArray, List.set_cons_succ, List.set_cons_zero])
    (refine any_take 3 ?_ (by rfl) (by kernel_rfl) (fun _ _ _ _ _ hx => hx.elim) (.inl ⟨by rfl, ?_⟩) (by exact bel_of) ?_; rotate_left; (intro X hX; obtain ⟨r1, r2⟩ := Below.rules hX; clear hX; go_simp; rfl); simp only [List.getElem_toArray, List.getElem_cons_succ, List.getElem_cons_zero, Act.put, List.setIfInBounds_toArray, List.set_cons_succ, List.set_cons_zero])
    (refine any_take 4 ?_ (by rfl) (by kernel_rfl) (fun _ _ _ _ _ hx => hx.elim) (.inl ⟨by rfl, ?_⟩) (by exact bel_of) ?_; rotate_left; (intro X hX; obtain ⟨r1, r2⟩ := Below.rules hX; clear hX; go_simp; rfl); simp only [List.getElem_toArray, List.getElem_cons_succ, List.getElem_cons_zero, Act.put, List.setIfInBounds_toArray, List.set_cons_succ, List.set_cons_zero])
    (refine any_take 5 ?_ (by rfl) (by kernel_rfl) (fun _ _ _ _ _ hx => hx.elim) (.inl ⟨by rfl, ?_⟩) (by exact bel_of) ?_; rotate_left; (intro X hX; obtain ⟨r1, r2⟩ := Below.rules hX; clear hX; go_simp; rfl); simp only [List.getElem_toArray, List.getElem_cons_succ, List.getElem_cons_zero, Act.put, List.setIfInBounds_toArray, List.set_cons_succ, List.set_cons_zero])
    (refine any_take 6 ?_ (by rfl) (by kernel_rfl) (fun _ _ _ _ _ hx => hx.elim) (.inl ⟨by rfl, ?_⟩) (by exact bel_of) ?_; rotate_left; (intro X hX; obtain ⟨r1, r2⟩ := Below.rules hX; clear hX; go_simp; rfl); simp only [List.getElem_toArray, List.getElem_cons_succ, List.getElem_cons_zero, Act.put, List.setIfInBounds_toArray, List.set_cons_succ, List.set_cons_zero])
    (refine any_take 7 ?_ (by rfl) (by kernel_rfl) (fun _ _ _ _ _ hx => hx.elim) (.inl ⟨by rfl, ?_⟩) (by exact bel_of) ?_; rotate_left; (intro X hX; obtain ⟨r1, r2⟩ := Below.rules hX; clear hX; go_simp; rfl); simp only [List.getElem_toArray, List.getElem_cons_succ, List.getElem_cons_zero, Act.put, List.setIfInBounds_toArray, List.set_cons_succ, List.set_cons_zero])
    (refine any_take 8 ?_ (by rfl) (by kernel_rfl) (fun _ _ _ _ _ hx => hx.elim) (.inl ⟨by rfl, ?_⟩) (by exact bel_of) ?_; rotate_left; (intro X hX; obtain ⟨r1, r2⟩ := Below.rules hX; clear hX; go_simp; rfl); simp only [List.getElem_toArray, List.getElem_cons_succ, List.getElem_cons_zero, Act.put, List.setIfInBounds_toArray, List.set_cons_succ, List.set_cons_zero])
    (refine any_take 9 ?_ (by rfl) (by kernel_rfl) (fun _ _ _ _ _ hx => hx.elim) (.inl ⟨by rfl, ?_⟩) (by exact bel_of) ?_; rotate_left; (intro X hX; obtain ⟨r1, r2⟩ := Below.rules hX; clear hX; go_simp; rfl); simp only [List.getElem_toArray, List.getElem_cons_succ, List.getElem_cons_zero, Act.put, List.setIfInBounds_toArray, List.set_cons_succ, List.set_cons_zero])
    (refine any_take 10 ?_ (by rfl) (by kernel_rfl) (fun _ _ _ _ _ hx => hx.elim) (.inl ⟨by rfl, ?_⟩) (by exact bel_of) ?_; rotate_left; (intro X hX; obtain ⟨r1, r2⟩ := Below.rules hX; clear hX; go_simp; rfl); simp only [List.getElem_toArray, List.getElem_cons_succ, List.getElem_cons_zero, Act.put, List.setIfInBounds_toArray, List.set_cons_succ, List.set_cons_zero])
    (refine any_take 11 ?_ (by rfl) (by kernel_rfl) (fun _ _ _ _ _ hx => hx.elim) (.inl ⟨by rfl, ?_⟩) (by exact bel_of) ?_; rotate_left; (intro X hX; obtain ⟨r1, r2⟩ := Below.rules hX; clear hX; go_simp; rfl); simp only [List.getElem_toArray, List.getElem_cons_succ, List.getElem_cons_zero, Act.put, List.setIfInBounds_toArray, List.set_cons_succ, List.set_cons_zero])
    (refine any_take 12 ?_ (by rfl) (by kernel_rfl) (fun _ _ _ _ _ hx => hx.elim) (.inl ⟨by rfl, ?_⟩) (by exact bel_of) ?_; rotate_left; (intro X hX; obtain ⟨r1, r2⟩ := Below.rules hX; clear hX; go_simp; rfl); simp only [List.getElem_toArray, List.getElem_cons_succ, List.getElem_cons_zero, Act.put, List.setIfInBounds_toArray, List.set_cons_succ, List.set_cons_zero])
    (refine any_take 13 ?_ (by rfl) (by kernel_rfl) (fun _ _ _ _ _ hx => hx.elim) (.inl ⟨by rfl, ?_⟩) (by exact bel_of) ?_; rotate_left; (intro X hX; obtain ⟨r1, r2⟩ := Below.rules hX; clear hX; go_simp; rfl); simp only [List.getElem_toArray, List.getElem_cons_succ, List.getElem_cons_zero, Act.put, List.setIfInBounds_toArray, List.set_cons_succ, List.set_cons_zero])
    (refine any_take 14 ?_ (by rfl) (by kernel_rfl) (fun _ _ _ _ _ hx => hx.elim) (.inl ⟨by rfl, ?_⟩) (by exact bel_of) ?_; rotate_left; (intro X hX; obtain ⟨r1, r2⟩ := Below.rules hX; clear hX; go_simp; rfl); simp only [List.getElem_toArray, List.getElem_cons_succ, List.getElem_cons_zero, Act.put, List.setIfInBounds_toArray, List.set_cons_succ, List.set_cons_zero])
    (refine any_take 15 ?_ (by rfl) (by kernel_rfl) (fun _ _ _ _ _ hx => hx.elim) (.inl ⟨by rfl, ?_⟩) (by exact bel_of) ?_; rotate_left; (intro X hX; obtain ⟨r1, r2⟩ := Below.rules hX; clear hX; go_simp; rfl); simp only [List.getElem_toArray, List.getElem_cons_succ, List.getElem_cons_zero, Act.put, List.setIfInBounds_toArray, List.set_cons_succ, List.set_cons_zero])
    (refine any_take 16 ?_ (by rfl) (by kernel_rfl) (fun _ _ _ _ _ hx => hx.elim) (.inl ⟨by rfl, ?_⟩) (by exact bel_of) ?_; rotate_left; (intro X hX; obtain ⟨r1, r2⟩ := Below.rules hX; clear hX; go_simp; rfl); simp only [List.getElem_toArray, List.getElem_cons_succ, List.getElem_cons_zero, Act.put, List.setIfInBounds_toArray, List.set_cons_succ, List.set_cons_zero])
    (refine any_take 17 ?_ (by rfl) (by kernel_rfl) (fun _ _ _ _ _ hx => hx.elim) (.inl ⟨by rfl, ?_⟩) (by exact bel_of) ?_; rotate_left; (intro X hX; obtain ⟨r1, r2⟩ := Below.rules hX; clear hX; go_simp; rfl); simp only [List.getElem_toArray, List.getElem_cons_succ, List.getElem_cons_zero, Act.put, List.setIfInBounds_toArray, List.set_cons_succ, List.set_cons_zero])
    (refine any_take 18 ?_ (by rfl) (by kernel_rfl) (fun _ _ _ _ _ hx => hx.elim) (.inl ⟨by rfl, ?_⟩) (by exact bel_of) ?_; rotate_left; (intro X hX; obtain ⟨r1, r2⟩ := Below.rules hX; clear hX; go_simp; rfl); simp only [List.getElem_toArray, List.getElem_cons_succ, List.getElem_cons_zero, Act.put, List.setIfInBounds_toArray, List.set_cons_succ, List.set_cons_zero])
    as_aux_lemma =>
      (refine any_take 19 ?_ (by rfl) (by kernel_rfl) (fun _ _ _ _ _ hx => hx.elim) (.inl ⟨by rfl, ?_⟩) (by exact bel_of) ?_; rotate_left; (intro X hX; obtain ⟨r1, r2⟩ := Below.rules hX; clear hX; go_simp; rfl); simp only [List.getElem_toArray, List.getElem_cons_succ, List.getElem_cons_zero, Act.put, List.setIfInBounds_toArray, List.set_cons_succ, List.set_cons_zero])
      (refine any_take 20 ?_ (by rfl) (by kernel_rfl) (fun _ _ _ _ _ hx => hx.elim) (.inl ⟨by rfl, ?_⟩) (by exact bel_of) ?_; rotate_left; (intro X hX; obtain ⟨r1, r2⟩ := Below.rules hX; clear hX; go_simp; rfl); simp only [List.getElem_toArray, List.getElem_cons_succ, List.getElem_cons_zero, Act.put, List.setIfInBounds_toArray, List.set_cons_succ, List.set_cons_zero])
      (refine any_take 21 ?_ (by rfl) (by kernel_rfl) (fun _ _ _ _ _ hx => hx.elim) (.inl ⟨by rfl, ?_⟩) (by exact bel_of) ?_; rotate_left; (intro X hX; obtain ⟨r1, r2⟩ := Below.rules hX; clear hX; go_simp; rfl); simp only [List.getElem_toArray, List.getElem_cons_succ, List.getElem_cons_zero, Act.put, List.setIfInBounds_toArray, List.set_cons_succ, List.set_cons_zero])
      (refine any_take 22 undef (by rfl) (by kernel_rfl) (fun _ _ _ _ _ hx => hx.elim) (.inr ⟨by rfl, by rfl⟩) (by exact bel_of) ?_; simp only [List.getElem_toArray, List.getElem_cons_succ, List.getElem_cons_zero, Act.put, List.setIfInBounds_toArray, List.set_cons_succ, List.set_cons_zero])
      (refine any_take 23 undef (by rfl) (by kernel_rfl) (fun _ _ _ _ _ hx => hx.elim) (.inr ⟨by rfl, by rfl⟩) (by exact bel_of) ?_; simp only [List.getElem_toArray, List.getElem_cons_succ, List.getElem_cons_zero, Act.put, List.setIfInBounds_toArray, List.set_cons_succ, List.set_cons_zero])
      (refine any_take 24 ?_ (by rfl) (by kernel_rfl) (fun _ _ _ _ _ hx => hx.elim) (.inl ⟨by rfl, ?_⟩) (by exact bel_of) ?_; rotate_left; (intro X hX; obtain ⟨r1, r2⟩ := Below.rules hX; clear hX; go_simp; rfl); simp only [List.getElem_toArray, List.getElem_cons_succ, List.getElem_cons_zero, Act.put, List.setIfInBounds_toArray, List.set_cons_succ, List.set_cons_zero])
      (refine any_take 25 ?_ (by rfl) (by kernel_rfl) (fun _ _ _ _ _ hx => hx.elim) (.inl ⟨by rfl, ?_⟩) (by exact bel_of) ?_; rotate_left; (intro X hX; obtain ⟨r1, r2⟩ := Below.rules hX; clear hX; go_simp; rfl); simp only [List.getElem_toArray, List.getElem_cons_succ, List.getElem_cons_zero, Act.put, List.setIfInBounds_toArray, List.set_cons_succ, List.set_cons_zero])
      (refine any_take 26 ?_ (by rfl) (by kernel_rfl) (fun _ _ _ _ _ hx => hx.elim) (.inl ⟨by rfl, ?_⟩) (by exact bel_of) ?_; rotate_left; (intro X hX; obtain ⟨r1, r2⟩ := Below.rules hX; clear hX; go_simp; rfl); simp only [List.getElem_toArray, List.getElem_cons_succ, List.getElem_cons_zero, Act.put, List.setIfInBounds_toArray, List.set_cons_succ, List.set_cons_zero])
      (refine any_take 27 ?_ (by rfl) (by kernel_rfl) (fun _ _ _ _ _ hx => hx.elim) (.inl ⟨by rfl, ?_⟩) (by exact bel_of) ?_; rotate_left; (intro X hX; obtain ⟨r1, r2⟩ := Below.rules hX; clear hX; go_simp; rfl); simp only [List.getElem_toArray, List.getElem_cons_succ, List.getElem_cons_zero, Act.put, List.setIfInBounds_toArray, List.set_cons_succ, List.set_cons_zero])
      (refine any_take 28 ?_ (by rfl) (by kernel_rfl) (fun _ _ _ _ _ hx => hx.elim) (.inl ⟨by rfl, ?_⟩) (by exact bel_of) ?_; rotate_left; (intro X hX; obtain ⟨r1, r2⟩ := Below.rules hX; clear hX; go_simp; rfl); simp only [List.getElem_toArray, List.getElem_cons_succ, List.getElem_cons_zero, Act.put, List.setIfInBounds_toArray, List.set_cons_succ, List.set_cons_zero])
      (refine any_take 29 ?_ (by rfl) (by kernel_rfl) (fun _ _ _ _ _ hx => hx.elim) (.inl ⟨by rfl, ?_⟩) (by exact bel_of) ?_; rotate_left; (intro X hX; obtain ⟨r1, r2⟩ := Below.rules hX; clear hX; go_simp; rfl); simp only [List.getElem_toArray, List.getElem_cons_succ, List.getElem_cons_zero, Act.put, List.setIfInBounds_toArray, List.set_cons_succ, List.set_cons_zero])
      (refine any_take 30 ?_ (by rfl) (by kernel_rfl) (fun _ _ _ _ _ hx => hx.elim) (.inl ⟨by rfl, ?_⟩) (by exact bel_of) ?_; rotate_left; (intro X hX; obtain ⟨r1, r2⟩ := Below.rules hX; clear hX; go_simp; rfl); simp only [List.getElem_toArray, List.getElem_cons_succ, List.getElem_cons_zero, Act.put, List.setIfInBounds_toArray, List.set_cons_succ, List.set_cons_zero])
      (refine any_take 31 ?_ (by rfl) (by kernel_rfl) (fun _ _ _ _ _ hx => hx.elim) (.inl ⟨by rfl, ?_⟩) (by exact bel_of) ?_; rotate_left; (intro X hX; obtain ⟨r1, r2⟩ := Below.rules hX; clear hX; go_simp; rfl); simp only [List.getElem_toArray, List.getElem_cons_succ, List.getElem_cons_zero, Act.put, List.setIfInBounds_toArray, List.set_cons_succ, List.set_cons_zero])
      (refine any_take 32 ?_ (by rfl) (by kernel_rfl) (fun _ _ _ _ _ hx => hx.elim) (.inl ⟨by rfl, ?_⟩) (by exact bel_of) ?_; rotate_left; (intro X hX; obtain ⟨r1, r2⟩ := Below.rules hX; clear hX; go_simp; rfl); simp only [List.getElem_toArray, List.getElem_cons_succ, List.getElem_cons_zero, Act.put, List.setIfInBounds_toArray, List.set_cons_succ, List.set_cons_zero])
      (refine any_take 33 ?_ (by rfl) (by kernel_rfl) (fun _ _ _ _ _ hx => hx.elim) (.inl ⟨by rfl, ?_⟩) (by exact bel_of) ?_; rotate_left; (intro X hX; obtain ⟨r1, r2⟩ := Below.rules hX; clear hX; go_simp; rfl); simp only [List.getElem_toArray, List.getElem_cons_succ, List.getElem_cons_zero, Act.put, List.setIfInBounds_toArray, List.set_cons_succ, List.set_cons_zero])
      (refine any_take 34 ?_ (by rfl) (by kernel_rfl) (fun _ _ _ _ _ hx => hx.elim) (.inl ⟨by rfl, ?_⟩) (by exact bel_of) ?_; rotate_left; (intro X hX; obtain ⟨r1, r2⟩ := Below.rules hX; clear hX; go_simp; rfl); simp only [List.getElem_toArray, List.getElem_cons_succ, List.getElem_cons_zero, Act.put, List.setIfInBounds_toArray, List.set_cons_succ, List.set_cons_zero])
      (refine any_take 35 ?_ (by rfl) (by kernel_rfl) (fun _ _ _ _ _ hx => hx.elim) (.inl ⟨by rfl, ?_⟩) (by exact bel_of) ?_; rotate_left; (intro X hX; obtain ⟨r1, r2⟩ := Below.rules hX; clear hX; go_simp; rfl); simp only [List.getElem_toArray, List.getElem_cons_succ, List.getElem_cons_zero, Act.put, List.setIfInBounds_toArray, List.set_cons_succ, List.set_cons_zero])
      (refine any_take 36 ?_ (by rfl) (by kernel_rfl) (fun _ _ _ _ _ hx => hx.elim) (.inl ⟨by rfl, ?_⟩) (by exact bel_of) ?_; rotate_left; (intro X hX; obtain ⟨r1, r2⟩ := Below.rules hX; clear hX; go_simp; rfl); simp only [List.getElem_toArray, List.getElem_cons_succ, List.getElem_cons_zero, Act.put, List.setIfInBounds_toArray, List.set_cons_succ, List.set_cons_zero])
      (refine any_take 37 ?_ (by rfl) (by kernel_rfl) (fun _ _ _ _ _ hx => hx.elim) (.inl ⟨by rfl, ?_⟩) (by exact bel_of) ?_; rotate_left; (intro X hX; obtain ⟨r1, r2⟩ := Below.rules hX; clear hX; go_simp; rfl); simp only [List.getElem_toArray, List.getElem_cons_succ, List.getElem_cons_zero, Act.put, List.setIfInBounds_toArray, List.set_cons_succ, List.set_cons_zero])
      (refine any_take 38 ?_ (by rfl) (by kernel_rfl) (fun _ _ _ _ _ hx => hx.elim) (.inl ⟨by rfl, ?_⟩) (by exact bel_of) ?_; rotate_left; (intro X hX; obtain ⟨r1, r2⟩ := Below.rules hX; clear hX; go_simp; rfl); simp only [List.getElem_toArray, List.getElem_cons_succ, List.getElem_cons_zero, Act.put, List.setIfInBounds_toArray, List.set_cons_succ, List.set_cons_zero])
      as_aux_lemma =>
        (refine any_take 39 ?_ (by rfl) (by kernel_rfl) (fun _ _ _ _ _ hx => hx.elim) (.inl ⟨by rfl, ?_⟩) (by exact bel_of) ?_; rotate_left; (intro X hX; obtain ⟨r1, r2⟩ := Below.rules hX; clear hX; go_simp; rfl); simp only [List.getElem_toArray, List.getElem_cons_succ, List.getElem_cons_zero, Act.put, List.setIfInBounds_toArray, List.set_cons_succ, List.set_cons_zero])
        (refine any_take 40 ?_ (by rfl) (by kernel_rfl) (fun _ _ _ _ _ hx => hx.elim) (.inl ⟨by rfl, ?_⟩) (by exact bel_of) ?_; rotate_left; (intro X hX; obtain ⟨r1, r2⟩ := Below.rules hX; clear hX; go_simp; rfl); simp only [List.getElem_toArray, List.getElem_cons_succ, List.getElem_cons_zero, Act.put, List.setIfInBounds_toArray, List.set_cons_succ, List.set_cons_zero])
        (refine any_take 41 ?_ (by rfl) (by kernel_rfl) (fun _ _ _ _ _ hx => hx.elim) (.inl ⟨by rfl, ?_⟩) (by exact bel_of) ?_; rotate_left; (intro X hX; obtain ⟨r1, r2⟩ := Below.rules hX; clear hX; go_simp; rfl); simp only [List.getElem_toArray, List.getElem_cons_succ, List.getElem_cons_zero, Act.put, List.setIfInBounds_toArray, List.set_cons_succ, List.set_cons_zero])
        have qz1 := d0z.size
        refine any_run1 (i := 42) (by kernel_rfl) (by rfl) (by kernel_rfl) ?_
        intro K hK
        go_wp2_with fail
        refine (rg_any s1 s2 _).mono ?_
        rintro e vz1 ⟨rfl, hb⟩
        have ez1 : Below Wr5.heap.size Wr5 vz1 := d0z.trans (hb.mono d0z.size)
        clear hb
        refine hK _ _ (fun _ => ez1) ?_
        clear hK K
        (refine any_take 43 ?_ (by rfl) (by kernel_rfl) (fun _ _ _ _ _ hx => hx.elim) (.inl ⟨by rfl, ?_⟩) (by exact bel_of) ?_; rotate_left; (intro X hX; obtain ⟨r1, r2⟩ := Below.rules hX; clear hX; go_simp; rfl); simp only [List.getElem_toArray, List.getElem_cons_succ, List.getElem_cons_zero, Act.put, List.setIfInBounds_toArray, List.set_cons_succ, List.set_cons_zero])
        (refine any_take 44 ?_ (by rfl) (by kernel_rfl) (fun _ _ _ _ _ hx => hx.elim) (.inl ⟨by rfl, ?_⟩) (by exact bel_of) ?_; rotate_left; (intro X hX; obtain ⟨r1, r2⟩ := Below.rules hX; clear hX; go_simp; rfl); simp only [List.getElem_toArray, List.getElem_cons_succ, List.getElem_cons_zero, Act.put, List.setIfInBounds_toArray, List.set_cons_succ, List.set_cons_zero])
        (refine any_take 45 ?_ (by rfl) (by kernel_rfl) (fun _ _ _ _ _ hx => hx.elim) (.inl ⟨by rfl, ?_⟩) (by exact bel_of) ?_; rotate_left; (intro X hX; obtain ⟨r1, r2⟩ := Below.rules hX; clear hX; go_simp; rfl); simp only [List.getElem_toArray, List.getElem_cons_succ, List.getElem_cons_zero, Act.put, List.setIfInBounds_toArray, List.set_cons_succ, List.set_cons_zero])
        (refine any_take 46 ?_ (by rfl) (by kernel_rfl) (fun _ _ _ _ _ hx => hx.elim) (.inl ⟨by rfl, ?_⟩) (by exact bel_of) ?_; rotate_left; (intro X hX; obtain ⟨r1, r2⟩ := Below.rules hX; clear hX; go_simp; rfl); simp only [List.getElem_toArray, List.getElem_cons_succ, List.getElem_cons_zero, Act.put, List.setIfInBounds_toArray, List.set_cons_succ, List.set_cons_zero])
        (refine any_take 47 ?_ (by rfl) (by kernel_rfl) (fun _ _ _ _ _ hx => hx.elim) (.inl ⟨by rfl, ?_⟩) (by exact bel_of) ?_; rotate_left; (intro X hX; obtain ⟨r1, r2⟩ := Below.rules hX; clear hX; go_simp; rfl); simp only [List.getElem_toArray, List.getElem_cons_succ, List.getElem_cons_zero, Act.put, List.setIfInBounds_toArray, List.set_cons_succ, List.set_cons_zero])
        (refine any_take 48 ?_ (by rfl) (by kernel_rfl) (fun _ _ _ _ _ hx => hx.elim) (.inl ⟨by rfl, ?_⟩) (by exact bel_of) ?_; rotate_left; (intro X hX; obtain ⟨r1, r2⟩ := Below.rules hX; clear hX; go_simp; rfl); simp only [List.getElem_toArray, List.getElem_cons_succ, List.getElem_cons_zero, Act.put, List.setIfInBounds_toArray, List.set_cons_succ, List.set_cons_zero])
        (refine any_take 49 ?_ (by rfl) (by kernel_rfl) (fun _ _ _ _ _ hx => hx.elim) (.inl ⟨by rfl, ?_⟩) (by exact bel_of) ?_; rotate_left; (intro X hX; obtain ⟨r1, r2⟩ := Below.rules hX; clear hX; go_simp; rfl); simp only [List.getElem_toArray, List.getElem_cons_succ, List.getElem_cons_zero, Act.put, List.setIfInBounds_toArray, List.set_cons_succ, List.set_cons_zero])
        (refine any_take 50 ?_ (by rfl) (by kernel_rfl) (fun _ _ _ _ _ hx => hx.elim) (.inl ⟨by rfl, ?_⟩) (by exact bel_of) ?_; rotate_left; (intro X hX; obtain ⟨r1, r2⟩ := Below.rules hX; clear hX; go_simp; rfl); simp only [List.getElem_toArray, List.getElem_cons_succ, List.getElem_cons_zero, Act.put, List.setIfInBounds_toArray, List.set_cons_succ, List.set_cons_zero])
        (refine any_take 51 ?_ (by rfl) (by kernel_rfl) (fun _ _ _ _ _ hx => hx.elim) (.inl ⟨by rfl, ?_⟩) (by exact bel_of) ?_; rotate_left; (intro X hX; obtain ⟨r1, r2⟩ := Below.rules hX; clear hX; go_simp; rfl); simp only [List.getElem_toArray, List.getElem_cons_succ, List.getElem_cons_zero, Act.put, List.setIfInBounds_toArray, List.set_cons_succ, List.set_cons_zero])
        have qz2 := ez1.size
        refine any_run1 (i := 52) (by kernel_rfl) (by rfl) (by kernel_rfl) ?_
        intro K hK
        go_wp2_with fail
        refine (rg_any s3 s4 _).mono ?_
        rintro e vz2 ⟨rfl, hb⟩
        have ez2 : Below Wr5.heap.size Wr5 vz2 := ez1.trans (hb.mono ez1.size)
        clear hb
        refine hK _ _ (fun _ => ez2) ?_
        clear hK K
        (refine any_take 53 ?_ (by rfl) (by kernel_rfl) (fun _ _ _ _ _ hx => hx.elim) (.inl ⟨by rfl, ?_⟩) (by exact bel_of) ?_; rotate_left; (intro X hX; obtain ⟨r1, r2⟩ := Below.rules hX; clear hX; go_simp; rfl); simp only [List.getElem_toArray, List.getElem_cons_succ, List.getElem_cons_zero, Act.put, List.setIfInBounds_toArray, List.set_cons_succ, List.set_cons_zero])
        (refine any_take 54 ?_ (by rfl) (by kernel_rfl) (fun _ _ _ _ _ hx => hx.elim) (.inl ⟨by rfl, ?_⟩) (by exact bel_of) ?_; rotate_left; (intro X hX; obtain ⟨r1, r2⟩ := Below.rules hX; clear hX; go_simp; rfl); simp only [List.getElem_toArray, List.getElem_cons_succ, List.getElem_cons_zero, Act.put, List.setIfInBounds_toArray, List.set_cons_succ, List.set_cons_zero])
        (refine any_take 55 ?_ (by rfl) (by kernel_rfl) (fun _ _ _ _ _ hx => hx.elim) (.inl ⟨by rfl, ?_⟩) (by exact bel_of) ?_; rotate_left; (intro X hX; obtain ⟨r1, r2⟩ := Below.rules hX; clear hX; go_simp; rfl); simp only [List.getElem_toArray, List.getElem_cons_succ, List.getElem_cons_zero, Act.put, List.setIfInBounds_toArray, List.set_cons_succ, List.set_cons_zero])
        (refine any_take 56 ?_ (by rfl) (by kernel_rfl) (fun _ _ _ _ _ hx => hx.elim) (.inl ⟨by rfl, ?_⟩) (by exact bel_of) ?_; rotate_left; (intro X hX; obtain ⟨r1, r2⟩ := Below.rules hX; clear hX; go_simp; rfl); simp only [List.getElem_toArray, List.getElem_cons_succ, List.getElem_cons_zero, Act.put, List.setIfInBounds_toArray, List.set_cons_succ, List.set_cons_zero])
        refine any_done (by kernel_rfl) (NoPanic.normal ?_)
        have hb := ez2
        replace hC : Below n0 w vz2 := hC.trans (hb.mono (by have := hC.size; omega))
        replace hR := (RS.below hR hb).more hb.size
        replace hu := (RS.below hu hb).more hb.size
        replace bx := bx.below hb bx.lt
        replace b2 := b2.below hb b2.lt
        replace xx := xx.below hb xx.lt
        replace yy := yy.below hb yy.lt
        replace hX := (RS.below hX hb).more hb.size
        replace hY := (RS.below hY hb).more hb.size
        replace r1 := r1.below hb r1.lt
        replace r2 := r2.below hb r2.lt
        replace r3 := r3.below hb r3.lt
        replace r4 := r4.below hb r4.lt
        replace r5 := r5.below hb r5.lt
        clear hb
        clear lr1 r1c0 r1c1
        clear lr2 r2c0 r2c1
        clear lr3 r3c0 r3c1
        clear lr4 r4c0 r4c1
        clear lr5 r5c0 r5c1
        clear w1 w2' w3' w4'
        have lbx := bx.lt
        have bxc0 := bx.cell 0
        have bxc1 := bx.cell 1
        simp at bxc0 bxc1
        have lxx := xx.lt
        have xxc0 := xx.cell 0
        have xxc1 := xx.cell 1
        simp at xxc0 xxc1
        have lyy := yy.lt
        have yyc0 := yy.cell 0
        have yyc1 := yy.cell 1
        simp at yyc0 yyc1
        go_wp2_with fail
        clear lbx bxc0 bxc1
        clear lxx xxc0 xxc1
        clear lyy yyc0 yyc1
        refine (refTruth_any N ts l _ _ _ (by omega) (by omega) hR hu).mono ?_
        rintro e w8 ⟨rfl, hb⟩
        replace hC : Below n0 w w8 := hC.trans (hb.mono (by have := hC.size; omega))
        replace hR := (RS.below hR hb).more hb.size
        replace hu := (RS.below hu hb).more hb.size
        replace bx := bx.below hb bx.lt
        replace b2 := b2.below hb b2.lt
        replace xx := xx.below hb xx.lt
        replace yy := yy.below hb yy.lt
        replace hX := (RS.below hX hb).more hb.size
        replace hY := (RS.below hY hb).more hb.size
        replace r1 := r1.below hb r1.lt
        replace r2 := r2.below hb r2.lt
        replace r3 := r3.below hb r3.lt
        replace r4 := r4.below hb r4.lt
        replace r5 := r5.below hb r5.lt
        clear hb
        obtain ⟨e, he⟩ : ∃ e, truthE N ts l = e := ⟨_, rfl⟩
        rw [he]
        have HE := Lib.hid he
        clear he
        by_cases h0 : e = 0
        case neg =>
          have b1 : (e != 0) = true := by simp [h0]
          have b1' : (e == 0) = false := by simp [h0]
          have HN := Lib.hid h0
          have lbx := bx.lt
          have bxc0 := bx.cell 0
          have bxc1 := bx.cell 1
          simp at bxc0 bxc1
          have lxx := xx.lt
          have xxc0 := xx.cell 0
          have xxc1 := xx.cell 1
          simp at xxc0 xxc1
          have lyy := yy.lt
          have yyc0 := yy.cell 0
          have yyc1 := yy.cell 1
          simp at yyc0 yyc1
          go_wp2_with fail
          clear lbx bxc0 bxc1
          clear lxx xxc0 xxc1
          clear lyy yyc0 yyc1
          refine (checkTruth_any N ts l _ _ _ (by omega) (by omega) hR hu).mono ?_
          rintro e w9 ⟨rfl, hb⟩
          replace hC : Below n0 w w9 := hC.trans (hb.mono (by have := hC.size; omega))
          replace hR := (RS.below hR hb).more hb.size
          replace hu := (RS.below hu hb).more hb.size
          replace bx := bx.below hb bx.lt
          replace b2 := b2.below hb b2.lt
          replace xx := xx.below hb xx.lt
          replace yy := yy.below hb yy.lt
          replace hX := (RS.below hX hb).more hb.size
          replace hY := (RS.below hY hb).more hb.size
          replace r1 := r1.below hb r1.lt
          replace r2 := r2.below hb r2.lt
          replace r3 := r3.below hb r3.lt
          replace r4 := r4.below hb r4.lt
          replace r5 := r5.below hb r5.lt
          clear hb
          rw [HE.out]
          have lbx := bx.lt
          have bxc0 := bx.cell 0
          have bxc1 := bx.cell 1
          simp at bxc0 bxc1
          have lxx := xx.lt
          have xxc0 := xx.cell 0
          have xxc1 := xx.cell 1
          simp at xxc0 xxc1
          have lyy := yy.lt
          have yyc0 := yy.cell 0
          have yyc1 := yy.cell 1
          simp at yyc0 yyc1
          go_wp2_with fail
          clear lbx bxc0 bxc1
          clear lxx xxc0 xxc1
          clear lyy yyc0 yyc1
          refine (checkTruth_any N (turnY ts) l _ _ _ (by have := HLY.out; omega) (by omega) hY hu).mono ?_
          rintro e w10 ⟨rfl, hb⟩
          replace hC : Below n0 w w10 := hC.trans (hb.mono (by have := hC.size; omega))
          replace hR := (RS.below hR hb).more hb.size
          replace hu := (RS.below hu hb).more hb.size
          replace bx := bx.below hb bx.lt
          replace b2 := b2.below hb b2.lt
          replace xx := xx.below hb xx.lt
          replace yy := yy.below hb yy.lt
          replace hX := (RS.below hX hb).more hb.size
          replace hY := (RS.below hY hb).more hb.size
          replace r1 := r1.below hb r1.lt
          replace r2 := r2.below hb r2.lt
          replace r3 := r3.below hb r3.lt
          replace r4 := r4.below hb r4.lt
          replace r5 := r5.below hb r5.lt
          clear hb
          have h2 : truthE N (turnY ts) l ≠ 0 := fun h => HN.out (by rw [← HE.out]; exact (truth_iff HBK.out).2 (tru_turnY.1 ((truth_iff HBY.out).1 h)))
          generalize truthE N (turnY ts) l = e2 at *
          have q2 : (e2 != 0) = true := by simp [h2]
          have b2' : (e2 == 0) = false := by simp [h2]
          go_wp2_with fail
          refine (works_any _).mono ?_
          rintro e w11 ⟨rfl, hb⟩
          replace hC : Below n0 w w11 := hC.trans (hb.mono (by have := hC.size; omega))
          replace hR := (RS.below hR hb).more hb.size
          replace hu := (RS.below hu hb).more hb.size
          replace bx := bx.below hb bx.lt
          replace b2 := b2.below hb b2.lt
          replace xx := xx.below hb xx.lt
          replace yy := yy.below hb yy.lt
          replace hX := (RS.below hX hb).more hb.size
          replace hY := (RS.below hY hb).more hb.size
          replace r1 := r1.below hb r1.lt
          replace r2 := r2.below hb r2.lt
          replace r3 := r3.below hb r3.lt
          replace r4 := r4.below hb r4.lt
          replace r5 := r5.below hb r5.lt
          clear hb
          go_wp2_with fail
          exact bodyPost_ret (v := .bool true) (by simp [results, Try.results15, go_sem, b1, b1', q2, h2]) rfl ⟨rfl, by first | exact hC | (rw [hn0]; exact hC) | (with_reducible rw [hn0]; exact bel_of) | exact bel_of⟩
        subst h0
        have HT := Lib.hid ((truth_iff HBK.out).1 HE.out)
        have lbx := bx.lt
        have bxc0 := bx.cell 0
        have bxc1 := bx.cell 1
        simp at bxc0 bxc1
        have lxx := xx.lt
        have xxc0 := xx.cell 0
        have xxc1 := xx.cell 1
        simp at xxc0 xxc1
        have lyy := yy.lt
        have yyc0 := yy.cell 0
        have yyc1 := yy.cell 1
        simp at yyc0 yyc1
        go_wp2_with fail
        clear lbx bxc0 bxc1
        clear lxx xxc0 xxc1
        clear lyy yyc0 yyc1
        go_loopw [24, 23] (fun i acc wr => ∃ k : Nat, k ≤ l.length ∧ i = .int .i64 k ∧ OwnI 2 wr w8.heap.size acc ((l.take k).map (fun x => 1000 - x)) ∧ Below w8.heap.size w8 wr) (fun i _ _ => l.length - (intOf i).toNat)
        case atStart => exact ⟨0, Nat.zero_le _, rfl, by simpa using OwnI.nil _ _ _, by first | exact Below.refl _ _ | exact bel_of⟩
        case round =>
          obtain ⟨k, hk, rfl, hown, hb⟩ := hrel
          have hbr := Lib.hid hb
          replace hC : Below n0 w wr := hC.trans (hb.mono (by have := hC.size; omega))
          replace hR := (RS.below hR hb).more hb.size
          replace hu := (RS.below hu hb).more hb.size
          replace bx := bx.below hb bx.lt
          replace b2 := b2.below hb b2.lt
          replace xx := xx.below hb xx.lt
          replace yy := yy.below hb yy.lt
          replace hX := (RS.below hX hb).more hb.size
          replace hY := (RS.below hY hb).more hb.size
          replace r1 := r1.below hb r1.lt
          replace r2 := r2.below hb r2.lt
          replace r3 := r3.below hb r3.lt
          replace r4 := r4.below hb r4.lt
          replace r5 := r5.below hb r5.lt
          clear hb
          by_cases hlt : k < l.length
          case pos =>
            have hlt' : (k : Int) < (l.length : Int) := by omega
            obtain ⟨Au, cu, bb, off, hve, hAx, hcx⟩ := RI.cells hu
            obtain ⟨rfl, hbb⟩ := hAx (by omega)
            injection hve with q1 q2 q3
            subst q1 q3
            have c0 := hcx k hlt
            have hr := HT.out.rng k (by have := HT.out.len; omega)
            have hmt := map_take_one hlt
            obtain ⟨x, hx⟩ : ∃ x, nthI l k = x := ⟨_, rfl⟩
            rw [hx] at c0 hr hmt
            have wx : IntKind.i64.wrap (1000 - x) = 1000 - x := by rw [IntKind.wrap_i64]; omega
            obtain ⟨v', w6, hrun, hown', hb', hs', _⟩ := app_i64 hown (1000 - x) (by simp; omega) hbr.out.size hbr.out wr.heap.size rfl
            rw [← hmt] at hown'
            have HO2 := Lib.hid hown'
            have HRUN := Lib.hid hrun
            have HB2 := Lib.hid hb'
            clear hown' hrun hb' hs' hmt hx hr hAx hcx q2 hown
            go_wp2_with (at_builtin; refine wpList_append_run rfl (.tmp 229) (.tmp 235) 40 _ rfl HRUN.out ?_)
            go_roundw
            case rel => exact ⟨k + 1, by omega, by go_num, HO2.out, HB2.out⟩
            case measure => simp [intOf]; omega
          have hlt' : ¬ (k : Int) < (l.length : Int) := by omega
          rw [List.take_of_length_le (show l.length ≤ k by omega)] at hown
          have hv := OwnI.ri hown
          obtain ⟨A_v, c_v, rfl⟩ := ri_slice hv
          rw [List.length_map] at hv
          rw [List.length_map]
          clear hown hbr
          have lbx := bx.lt
          have bxc0 := bx.cell 0
          have bxc1 := bx.cell 1
          simp at bxc0 bxc1
          have lxx := xx.lt
          have xxc0 := xx.cell 0
          have xxc1 := xx.cell 1
          simp at xxc0 xxc1
          have lyy := yy.lt
          have yyc0 := yy.cell 0
          have yyc1 := yy.cell 1
          simp at yyc0 yyc1
          go_wp2_with fail
          clear lbx bxc0 bxc1
          clear lxx xxc0 xxc1
          clear lyy yyc0 yyc1
          refine (checkTruth_any N (turnX ts) (l.map fun x => 1000 - x) _ _ _ (by have := HLX.out; omega) (by simp; omega) hX hv).mono ?_
          rintro e w9 ⟨rfl, hb⟩
          replace hC : Below n0 w w9 := hC.trans (hb.mono (by have := hC.size; omega))
          replace hR := (RS.below hR hb).more hb.size
          replace hu := (RS.below hu hb).more hb.size
          replace bx := bx.below hb bx.lt
          replace b2 := b2.below hb b2.lt
          replace xx := xx.below hb xx.lt
          replace yy := yy.below hb yy.lt
          replace hX := (RS.below hX hb).more hb.size
          replace hY := (RS.below hY hb).more hb.size
          replace r1 := r1.below hb r1.lt
          replace r2 := r2.below hb r2.lt
          replace r3 := r3.below hb r3.lt
          replace r4 := r4.below hb r4.lt
          replace r5 := r5.below hb r5.lt
          replace hv := (RS.below hv hb).more hb.size
          clear hb
          rw [(truth_iff HBX.out).2 (tru_turnX HO.out HT.out)]
          have lbx := bx.lt
          have bxc0 := bx.cell 0
          have bxc1 := bx.cell 1
          simp at bxc0 bxc1
          have lxx := xx.lt
          have xxc0 := xx.cell 0
          have xxc1 := xx.cell 1
          simp at xxc0 xxc1
          have lyy := yy.lt
          have yyc0 := yy.cell 0
          have yyc1 := yy.cell 1
          simp at yyc0 yyc1
          go_wp2_with fail
          clear lbx bxc0 bxc1
          clear lxx xxc0 xxc1
          clear lyy yyc0 yyc1
          refine (checkTruth_any N (turnY ts) l _ _ _ (by have := HLY.out; omega) (by omega) hY hu).mono ?_
          rintro e w10 ⟨rfl, hb⟩
          replace hC : Below n0 w w10 := hC.trans (hb.mono (by have := hC.size; omega))
          replace hR := (RS.below hR hb).more hb.size
          replace hu := (RS.below hu hb).more hb.size
          replace bx := bx.below hb bx.lt
          replace b2 := b2.below hb b2.lt
          replace xx := xx.below hb xx.lt
          replace yy := yy.below hb yy.lt
          replace hX := (RS.below hX hb).more hb.size
          replace hY := (RS.below hY hb).more hb.size
          replace r1 := r1.below hb r1.lt
          replace r2 := r2.below hb r2.lt
          replace r3 := r3.below hb r3.lt
          replace r4 := r4.below hb r4.lt
          replace r5 := r5.below hb r5.lt
          replace hv := (RS.below hv hb).more hb.size
          clear hb
          rw [(truth_iff HBY.out).2 (tru_turnY.2 HT.out)]
          go_wp2_with fail
          refine (works_any _).mono ?_
          rintro e w11 ⟨rfl, hb⟩
          replace hC : Below n0 w w11 := hC.trans (hb.mono (by have := hC.size; omega))
          replace hR := (RS.below hR hb).more hb.size
          replace hu := (RS.below hu hb).more hb.size
          replace bx := bx.below hb bx.lt
          replace b2 := b2.below hb b2.lt
          replace xx := xx.below hb xx.lt
          replace yy := yy.below hb yy.lt
          replace hX := (RS.below hX hb).more hb.size
          replace hY := (RS.below hY hb).more hb.size
          replace r1 := r1.below hb r1.lt
          replace r2 := r2.below hb r2.lt
          replace r3 := r3.below hb r3.lt
          replace r4 := r4.below hb r4.lt
          replace r5 := r5.below hb r5.lt
          replace hv := (RS.below hv hb).more hb.size
          clear hb
          go_wp2_with fail
          exact bodyPost_ret (v := .bool true) (by simp [results, Try.results15, go_sem]) rfl ⟨rfl, by first | exact hC | (rw [hn0]; exact hC) | (with_reducible rw [hn0]; exact bel_of) | exact bel_of⟩
end Go.Proofs.Ytkljdbgkhghiaaa

namespace Go.Proofs.Ytkljdbgkhghiaaa.keenTurned
open Go.ChangeShapes Go.WideShapes Go.ChangeAt Go.RowKit Go.Deep

set_option maxRecDepth 100000 in
theorem lifted (os : Os) (started : os.Started) (H : Type) (enc : TypeId × Value → H) :
    ReturnsInHanded {} Try.checked os 15 .any (Rows.keenTurnedSpec.pre6 enc Try.prog Try.f15 Rows.keenTurnedRow.domain false) (Rows.keenTurnedSpec.post enc Try.prog Try.f15 false true false false) := by
  refine returnsInHanded_of_change (C := Try.checked) own started (by kernel_rfl) Try.func15
    (ChangeSpec.witness6 (enc := enc) (C := Try.checked) false ⟨#[], #[.agg #[.int .i64 0, .slice none 0 0], .slice none 0 0, .agg #[.int .u8 0, .int .u8 0]], []⟩ 8 (by kernel_rfl) (by kernel_rfl) (by kernel_rfl) (by kernel_rfl)) ?_
  intro W base args ds gs before hval0 hW hcnd _
  have hval : ∀ (j : Nat) t v, Try.f15.params[j]? = some t → args[j]? = some v → Value.okWide Try.prog W .any base t v := hval0
  have hW2 : DataW.Whole enc Try.prog Try.f15.params.toList Rows.keenTurnedSpec.vars false W args.toList ds gs before := hW
  obtain ⟨p, q, hA0, hV, rfl, hfz, hnd⟩ := hW
  have hA : DataW.TrodAll enc Try.prog W 0 (fun _ => true) true Try.f15.params.toList args.toList ds p := hA0
  rw [Try.params15] at hA hval
  obtain ⟨v0, vs0, d0, ds0, p0, q0, hargs, rfl, rfl, h0, r0⟩ := trodAll_cons hA
  obtain ⟨v1, vs1, d1, ds1, p1, q1, rfl, rfl, rfl, h1, r1⟩ := trodAll_cons r0
  obtain ⟨v2, vs2, d2, ds2, p2, q2, rfl, rfl, rfl, h2, r2⟩ := trodAll_cons r1
  obtain ⟨rfl, rfl, rfl⟩ := trodAll_nil r2
  obtain rfl : args = #[v0, v1, v2] := by cases args; simp_all
  obtain ⟨rfl, rfl⟩ := trodVars_none hV
  obtain ⟨E0, s0, l0, rfl, g0, k0, n0, m0⟩ := open_book (hval 0 24 v0 rfl rfl) h0
  obtain ⟨l1, g1, k1, m1⟩ := open_i64s (hval 1 40 v1 rfl rfl) h1
  obtain ⟨x2, y2, rfl, g2⟩ := open_a2 (hval 2 64 v2 rfl rfl) h2
  refine (keenTurned_any (E := E0) (ts := l0) (v := s0) (h := g0) (hE := k0) (hts := n0) (hl := m0) (l := l1) (u := v1) (hu := g1) (hul := k1) (hll := m1) (x2 := x2) (y2 := y2) (h2 := g2) (w := W)).mono fun e W' ⟨he, hg⟩ => ?_
  subst he
  exact ⟨_, rfl, law_done hW2 rfl rfl rfl (by rw [Try.params15]; decide +kernel) hg⟩

theorem over : Rows.keenTurnedRow.holds Try.pinned (OpenSpec.ofChange Rows.keenTurnedSpec) :=
  OpenClaim.holds_of_wide 15 Try.f15 rfl rfl rfl rfl rfl rfl rfl ⟨rfl, rfl, rfl, rfl, rfl⟩ rfl rfl rfl rfl rfl (by kernel_rfl) Try.func15 (by kernel_rfl)
    (of_decide_eq_true (by kernel_rfl)) (by unfold Func.isWrapper; first | (rw [if_pos (by decide +kernel)]; kernel_rfl) | (rw [if_neg (by decide +kernel)]; exact ⟨rfl, rfl⟩))
    (fun os started H enc _ => lifted os started H enc)

theorem proved : Rows.KeenTurnedSaid :=
  over
end Go.Proofs.Ytkljdbgkhghiaaa.keenTurned
namespace Go.Proofs.Ytkljdbgkhghiaaa
theorem keenTurned_proved : Rows.KeenTurnedSaid := keenTurned.proved
#print axioms keenTurned_proved
end Go.Proofs.Ytkljdbgkhghiaaa
