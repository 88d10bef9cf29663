/- A region whose end is stated once for all its orders; two lists of tests that grow side by side. KeenNarrower: the walk. KeenNarrower: the row. -/
import Derived.Test.YtkljdbgkhghiaaaP15
import Derived.Test.YtkljdbgkhghiaaaP27
import Derived.Test.YtkljdbgkhghiaaaP28
import Derived.Test.YtkljdbgkhghiaaaP29
import Derived.Test.YtkljdbgkhghiaaaP21
import Derived.Test.YtkljdbgkhghiaaaP22
import Derived.Test.YtkljdbgkhghiaaaP26
import Derived.Test.YtkljdbgkhghiaaaRows
set_option linter.all false
set_option linter.unnecessarySimpa false
set_option linter.unusedSimpArgs false
set_option linter.unusedVariables false
set_option linter.unusedSectionVars false

set_option linter.all false
namespace Go.Proofs.Ytkljdbgkhghiaaa
open Go.RowKit Kp

/-- Only the normal exit, and what holds there. -/
def OnlyN (R : Act → World → Prop) : Exit → Act → World → Prop
  | .normal, a, w => R a w
  | _, _, _ => False
theorem wp_cut {P : Program} {c : Code} {Q : Exit → Act → World → Prop} {a : Act} {w : World} (R : Act → Act → World → Prop) (h : c.wp P (OnlyN (R a)) a w) (h2 : ∀ a' w', R a a' w' → Q .normal a' w') : c.wp P Q a w :=
  Code.wp_mono (fun e a' w' hq => by cases e <;> first | exact h2 _ _ hq | exact (hq : False).elim) h

/-- Two lists of tests that grow, each in a block of its own. -/
def TwoT (X : World) (base : Nat) (v u : Value) (l m : List Kt) : Prop := OwnT X base v l ∧ OwnT X base u m ∧ ∀ g, v.ownBlock = some g → u.ownBlock ≠ some g
theorem TwoT.symm {X : World} {base : Nat} {v u : Value} {l m : List Kt} (h : TwoT X base v u l m) : TwoT X base u v m l := ⟨h.2.1, h.1, fun g hg hq => h.2.2 g hq hg⟩
theorem TwoT.below {X Y : World} {base : Nat} {v u : Value} {l m : List Kt} (h : TwoT X base v u l m) (hb : Below X.heap.size X Y) : TwoT Y base v u l m := ⟨own_below h.1 hb, own_below h.2.1 hb, h.2.2⟩
theorem TwoT.far {X : World} {base : Nat} {v u : Value} {l m : List Kt} (h : TwoT X base v u l m) {p : Addr} {cs : Array Value} (hp : BK X p.block cs 24) (x : Value) : TwoT (X.setCell p x) base v u l m := by
  have ne : ∀ {z : Value} {k : List Kt}, OwnT X base z k → z.ownBlock ≠ some p.block := fun {z k} hz hq => by
    obtain ⟨c, hc⟩ := own_block hz hq
    unfold BK at hp
    rw [hp] at hc
    injection hc with hc
    injection hc with _ hc
    exact absurd hc (by decide)
  exact ⟨own_far h.1 (ne h.1) x, own_far h.2.1 (ne h.2.1) x, h.2.2⟩
theorem TwoT.nil (X : World) (base : Nat) : TwoT X base (.slice none 0 0) (.slice none 0 0) [] [] := ⟨OwnT.nil X base, OwnT.nil X base, fun g hg => by cases hg⟩

theorem two_grow {W : World} {base g tn : Nat} {v u : Value} {l m : List Kt} {x : Kt} (h : TwoT W base v u l m) (hg : BK W g #[.int .i64 x.one, .int .i64 x.two, .int .i64 x.lo, .int .i64 x.hi] tn) (hn : l.length ≤ 100000) (hbase : base ≤ W.heap.size) :
    ∃ v' w2, (Builtin.append_ #[22, 22] 22 #[v, .slice (some ⟨g, 0, none⟩) 1 1]).run Try.prog W = .ok v' w2 ∧ TwoT w2 base v' u (l ++ [x]) m ∧ (∀ w0, Below base w0 W → Below base w0 w2) ∧ W.heap.size ≤ w2.heap.size ∧ (∀ k cs t, BK W k cs t → v.ownBlock ≠ some k → BK w2 k cs t) := by
  obtain ⟨h1, h2, h3⟩ := h
  obtain ⟨i0, hi0, hz0, hz1, hz2⟩ := info_parts kt_info
  obtain ⟨g', cap', w2, hrun, hown', hgr, hat⟩ := app1 (P := Try.prog) 22 22 56 i0 _ _ _ kt_slice hi0 hz0 hz1 hz2 rfl (by decide) (by decide) base W v l.length (ofG encT l) h1 g (encT x) tn hg rfl (by intro u hu; simp [encT] at hu; rcases hu with rfl | rfl | rfl | rfl <;> rfl) hn hbase
  refine ⟨_, w2, hrun, ⟨?_, ?_, ?_⟩, fun w0 hbw => Below.grown hbw hgr hbase fun k hk => (h1.lt k hk).1, hgr.size, ?_⟩
  · unfold OwnT
    rw [← ofG_app, List.length_append]
    exact hown'
  · refine h2.kept hgr ?_
    cases hu : u.ownBlock with
    | none => exact .inl rfl
    | some q => exact .inr fun hq => h3 q hq.symm hu
  · intro q hq hu
    rcases hat with hat | hat
    · have : q = g' := by simpa [Value.ownBlock] using hq.symm
      subst this
      exact h3 q hat hu
    · have : q = g' := by simpa [Value.ownBlock] using hq.symm
      subst this
      have := (h2.lt q hu).2
      omega
  · intro k cs t hk hte
    exact hk.grown hgr fun hq => hte hq.symm
theorem TwoT.ne {X : World} {base k : Nat} {v u : Value} {l m : List Kt} {cs : Array Value} (h : TwoT X base v u l m) (hk : BK X k cs 24) : v.ownBlock ≠ some k := fun hq => by
  obtain ⟨c, hc⟩ := own_block h.1 hq
  unfold BK at hk
  rw [hk] at hc
  injection hc with hc
  injection hc with _ hc
  exact absurd hc (by decide)
theorem TwoT.lt {X : World} {base : Nat} {v u : Value} {l m : List Kt} (h : TwoT X base v u l m) {k : Nat} (hk : X.heap.size ≤ k) : v.ownBlock ≠ some k := fun hq => by
  have := (h.1.lt k hq).2
  omega
end Go.Proofs.Ytkljdbgkhghiaaa

set_option linter.all false
namespace Go.Proofs.Ytkljdbgkhghiaaa
open Go.RowKit Kp

theorem own_span {N : Nat} {ts : List Kt} {t : Kt} (ht : Okb N (ts ++ [t])) : t.lo ≤ -D N (ts ++ [t]) t.one.toNat t.two.toNat ∧ D N (ts ++ [t]) t.two.toNat t.one.toNat ≤ t.hi := by
  have := D_tst ht (t := t) (by simp)
  omega
theorem nthI_mem {l : List Int} {k : Nat} (h : k < l.length) : nthI l k ∈ l := by
  have : nthI l k = l[k] := by simp [nthI, h]
  rw [this]
  exact List.getElem_mem h

set_option maxHeartbeats 8000000 in
set_option maxRecDepth 100000 in
theorem keenNarrower_any (E : Int) (ts : List Kt) (v : Value) (t : Kt) (x2 y2 : Nat) (w : World) (h : RT w w.heap.size v ts) (hE : okI E) (hts : ∀ t ∈ ts, okT t) (hl : ts.length ≤ maxLen) (ht : okT t) (h2 : x2 ≤ 255 ∧ y2 ≤ 255) :
    Calls Try.prog 9 #[.agg #[.int .i64 E, v], tV t, .agg #[.int .u8 x2, .int .u8 y2]] w fun x w' => x = .returned (.bool true) ∧ Below w.heap.size w w' := by
  obtain ⟨b, off, cap, A, rfl, hAx⟩ := h.slice
  clear hAx
  have hR := h
  clear h
  obtain ⟨n0, hn0⟩ : ∃ n, w.heap.size = n := ⟨_, rfl⟩
  have hC : Below n0 w w := Below.refl _ _
  obtain ⟨h2x, h2y⟩ := h2
  obtain ⟨one, two, lo, hi⟩ := t
  have htV : tV ⟨one, two, lo, hi⟩ = .agg #[.int .i64 one, .int .i64 two, .int .i64 lo, .int .i64 hi] := rfl
  rw [htV]
  have HTV := Lib.hid htV
  clear htV
  clear ht
  clear hE hts
  go_enter Try.func9, Try.ntmps9
  go_wp2_with fail
  have hqbx : n0 ≤ n0 := by have := hC.size; omega
  have bx : BK (w.alloc (.cells #[.int .i64 E, .slice A ts.length cap] 24)) (n0) #[.int .i64 E, .slice A ts.length cap] 24 := BK.new' _ _ _ (n0) hn0
  have hsbx : (w.alloc (.cells #[.int .i64 E, .slice A ts.length cap] 24)).heap.size = n0 + 1 := by simp [hn0]
  replace hC : Below n0 w (w.alloc (.cells #[.int .i64 E, .slice A ts.length cap] 24)) := Below.alloc hC (by have := hC.size; omega) _
  replace hR := (RS.below hR (w' := (w.alloc (.cells #[.int .i64 E, .slice A ts.length cap] 24))) (Below.alloc (Below.refl _ _) (Nat.le_refl _) _)).more (B' := (w.alloc (.cells #[.int .i64 E, .slice A ts.length cap] 24)).heap.size) (by simp)
  generalize (w.alloc (.cells #[.int .i64 E, .slice A ts.length cap] 24)) = Wbx at *
  go_wp2_with fail
  have hqbt : n0 ≤ n0 + 1 := by have := hC.size; omega
  have bt : BK (Wbx.alloc (.cells #[.int .i64 one, .int .i64 two, .int .i64 lo, .int .i64 hi] 56)) (n0 + 1) #[.int .i64 one, .int .i64 two, .int .i64 lo, .int .i64 hi] 56 := BK.new' _ _ _ (n0 + 1) hsbx
  have hsbt : (Wbx.alloc (.cells #[.int .i64 one, .int .i64 two, .int .i64 lo, .int .i64 hi] 56)).heap.size = n0 + 1 + 1 := by simp [hsbx]
  replace hC : Below n0 w (Wbx.alloc (.cells #[.int .i64 one, .int .i64 two, .int .i64 lo, .int .i64 hi] 56)) := Below.alloc hC (by have := hC.size; omega) _
  replace hR := (RS.below hR (w' := (Wbx.alloc (.cells #[.int .i64 one, .int .i64 two, .int .i64 lo, .int .i64 hi] 56))) (Below.alloc (Below.refl _ _) (Nat.le_refl _) _)).more (B' := (Wbx.alloc (.cells #[.int .i64 one, .int .i64 two, .int .i64 lo, .int .i64 hi] 56)).heap.size) (by simp)
  replace bx := bx.alloc (.cells #[.int .i64 one, .int .i64 two, .int .i64 lo, .int .i64 hi] 56)
  generalize (Wbx.alloc (.cells #[.int .i64 one, .int .i64 two, .int .i64 lo, .int .i64 hi] 56)) = Wbt at *
  clear hsbx
  go_wp2_with fail
  have hqb2 : n0 ≤ n0 + 1 + 1 := by have := hC.size; omega
  have b2 : BK (Wbt.alloc (.cells #[.int .u8 x2, .int .u8 y2] 64)) (n0 + 1 + 1) #[.int .u8 x2, .int .u8 y2] 64 := BK.new' _ _ _ (n0 + 1 + 1) hsbt
  have hsb2 : (Wbt.alloc (.cells #[.int .u8 x2, .int .u8 y2] 64)).heap.size = n0 + 1 + 1 + 1 := by simp [hsbt]
  replace hC : Below n0 w (Wbt.alloc (.cells #[.int .u8 x2, .int .u8 y2] 64)) := Below.alloc hC (by have := hC.size; omega) _
  replace hR := (RS.below hR (w' := (Wbt.alloc (.cells #[.int .u8 x2, .int .u8 y2] 64))) (Below.alloc (Below.refl _ _) (Nat.le_refl _) _)).more (B' := (Wbt.alloc (.cells #[.int .u8 x2, .int .u8 y2] 64)).heap.size) (by simp)
  replace bx := bx.alloc (.cells #[.int .u8 x2, .int .u8 y2] 64)
  replace bt := bt.alloc (.cells #[.int .u8 x2, .int .u8 y2] 64)
  generalize (Wbt.alloc (.cells #[.int .u8 x2, .int .u8 y2] 64)) = Wb2 at *
  clear hsbt
  have lbx := bx.lt
  have bxc0 := bx.cell 0
  have bxc1 := bx.cell 1
  simp at bxc0 bxc1
  go_wp2_with fail
  clear lbx bxc0 bxc1
  clear hsb2
  refine (fine_any E ts _ _ hl hR).mono ?_
  rintro e w1 ⟨rfl, hb⟩
  replace hC : Below n0 w w1 := hC.trans (hb.mono (by have := hC.size; omega))
  replace hR := (RS.below hR hb).more hb.size
  replace bx := bx.below hb bx.lt
  replace bt := bt.below hb bt.lt
  replace b2 := b2.below hb b2.lt
  clear hb
  obtain ⟨q, hq⟩ : ∃ q, fineB E ts = q := ⟨_, rfl⟩
  rw [hq]
  cases q
  case false =>
    clear hq
    go_wp2_with fail
    refine (works_any _).mono ?_
    rintro e w2 ⟨rfl, hb⟩
    replace hC : Below n0 w w2 := hC.trans (hb.mono (by have := hC.size; omega))
    replace hR := (RS.below hR hb).more hb.size
    replace bx := bx.below hb bx.lt
    replace bt := bt.below hb bt.lt
    replace b2 := b2.below hb b2.lt
    clear hb
    go_wp2_with fail
    exact bodyPost_ret (v := .bool true) (by simp [results, Try.results9, go_sem]) rfl ⟨rfl, by first | exact hC | (rw [hn0]; exact hC) | (with_reducible rw [hn0]; exact bel_of) | exact bel_of⟩
  obtain ⟨h5, hbk, ha⟩ := fineB_iff.1 hq
  clear hq
  have hl50 : ts.length ≤ 50 := by omega
  obtain ⟨N, rfl, ho, hl40⟩ := bookE_ok hbk
  rw [Int.toNat_natCast] at ha
  have hN1 := ho.pos
  have hN16 := ho.few
  have HO := Lib.hid ho
  have HA := Lib.hid ha
  have HBK := Lib.hid hbk
  clear ho ha hbk h5
  have lbx := bx.lt
  have bxc0 := bx.cell 0
  have bxc1 := bx.cell 1
  simp at bxc0 bxc1
  have lbt := bt.lt
  have btc0 := bt.cell 0
  have btc1 := bt.cell 1
  have btc2 := bt.cell 2
  have btc3 := bt.cell 3
  simp at btc0 btc1 btc2 btc3
  have lb2 := b2.lt
  have b2c0 := b2.cell 0
  have b2c1 := b2.cell 1
  simp at b2c0 b2c1
  by_cases hN2 : N < 2
  case pos =>
    have h7 : (N : Int) < 2 := by omega
    go_wp2_with fail
    refine (works_any _).mono ?_
    rintro e w2 ⟨rfl, hb⟩
    replace hC : Below n0 w w2 := hC.trans (hb.mono (by have := hC.size; omega))
    replace hR := (RS.below hR hb).more hb.size
    replace bx := bx.below hb bx.lt
    replace bt := bt.below hb bt.lt
    replace b2 := b2.below hb b2.lt
    clear hb
    go_wp2_with fail
    exact bodyPost_ret (v := .bool true) (by simp [results, Try.results9, go_sem]) rfl ⟨rfl, by first | exact hC | (rw [hn0]; exact hC) | (with_reducible rw [hn0]; exact bel_of) | exact bel_of⟩
  have h7 : ¬ (N : Int) < 2 := by omega
  by_cases h39 : ts.length > 39
  case pos =>
    have h8 : (ts.length : Int) > 39 := by omega
    go_wp2_with fail
    refine (works_any _).mono ?_
    rintro e w2 ⟨rfl, hb⟩
    replace hC : Below n0 w w2 := hC.trans (hb.mono (by have := hC.size; omega))
    replace hR := (RS.below hR hb).more hb.size
    replace bx := bx.below hb bx.lt
    replace bt := bt.below hb bt.lt
    replace b2 := b2.below hb b2.lt
    clear hb
    go_wp2_with fail
    exact bodyPost_ret (v := .bool true) (by simp [results, Try.results9, go_sem]) rfl ⟨rfl, by first | exact hC | (rw [hn0]; exact hC) | (with_reducible rw [hn0]; exact bel_of) | exact bel_of⟩
  have h8 : ¬ (ts.length : Int) > 39 := by omega
  go_wp2_with fail
  clear lbx bxc0 bxc1
  clear lbt btc0 btc1 btc2 btc3
  clear lb2 b2c0 b2c1
  refine (tellsP_any N ts ⟨one, two, lo, hi⟩ _ _ (by omega) hR).mono ?_
  rintro e w2 ⟨rfl, hb⟩
  replace hC : Below n0 w w2 := hC.trans (hb.mono (by have := hC.size; omega))
  replace hR := (RS.below hR hb).more hb.size
  replace bx := bx.below hb bx.lt
  replace bt := bt.below hb bt.lt
  replace b2 := b2.below hb b2.lt
  clear hb
  obtain ⟨e, he⟩ : ∃ e, testE N ⟨one, two, lo, hi⟩ = e := ⟨_, rfl⟩
  rw [he]
  by_cases h0 : e = 0
  case neg =>
    have hO : openE N ts e = e := openE_ask HBK.out h0
    rw [hO, tellsV_bad h0]
    clear hO
    have HT := Lib.hid he
    clear he
    have b1 : (e == 0) = false := by simp [h0]
    have b2x : (e != 0) = true := by simp [h0]
    have lbx := bx.lt
    have bxc0 := bx.cell 0
    have bxc1 := bx.cell 1
    simp at bxc0 bxc1
    have lbt := bt.lt
    have btc0 := bt.cell 0
    have btc1 := bt.cell 1
    have btc2 := bt.cell 2
    have btc3 := bt.cell 3
    simp at btc0 btc1 btc2 btc3
    have lb2 := b2.lt
    have b2c0 := b2.cell 0
    have b2c1 := b2.cell 1
    simp at b2c0 b2c1
    go_wp2_with fail
    clear lbx bxc0 bxc1
    clear lbt btc0 btc1 btc2 btc3
    clear lb2 b2c0 b2c1
    refine (isTest_any N ⟨one, two, lo, hi⟩ _ (by omega)).mono ?_
    rintro e w3 ⟨rfl, hb⟩
    replace hC : Below n0 w w3 := hC.trans (hb.mono (by have := hC.size; omega))
    replace hR := (RS.below hR hb).more hb.size
    replace bx := bx.below hb bx.lt
    replace bt := bt.below hb bt.lt
    replace b2 := b2.below hb b2.lt
    clear hb
    rw [HT.out]
    go_wp2_with fail
    refine (works_any _).mono ?_
    rintro e w4 ⟨rfl, hb⟩
    replace hC : Below n0 w w4 := hC.trans (hb.mono (by have := hC.size; omega))
    replace hR := (RS.below hR hb).more hb.size
    replace bx := bx.below hb bx.lt
    replace bt := bt.below hb bt.lt
    replace b2 := b2.below hb b2.lt
    clear hb
    go_wp2_with fail
    exact bodyPost_ret (v := .bool true) (by simp [results, Try.results9, go_sem]) rfl ⟨rfl, by first | exact hC | (rw [hn0]; exact hC) | (with_reducible rw [hn0]; exact bel_of) | exact bel_of⟩
  subst h0
  have hO : openE N ts 0 = 0 := openE_agr HBK.out rfl HA.out
  rw [hO, tellsV_ok]
  clear hO
  have HT := Lib.hid he
  clear he
  have HO2 := Lib.hid (okb_snoc HO.out HT.out)
  obtain ⟨t1, t2, t3, t4, t5, t6, t7, t8⟩ := testE_ok HT.out
  dsimp only at t1 t2 t3 t4 t5 t6 t7 t8
  obtain ⟨p, rfl⟩ : ∃ p : Nat, one = p := ⟨one.toNat, by omega⟩
  obtain ⟨q, rfl⟩ : ∃ q : Nat, two = q := ⟨two.toNat, by omega⟩
  have hpN : p < N := by omega
  have hqN : q < N := by omega
  have hpq : p ≠ q := by omega
  obtain ⟨tl, htl⟩ : ∃ x, tellsP N ts ⟨p, q, lo, hi⟩ = x := ⟨_, rfl⟩
  rw [htl]
  have HTL := Lib.hid htl
  clear htl t1 t2 t3 t4 t5
  have HB2 := Lib.hid (show bookE (N : Int) (ts ++ [⟨p, q, lo, hi⟩]) = 0 from of_bookE HO2.out (by simp; omega))
  have lbx := bx.lt
  have bxc0 := bx.cell 0
  have bxc1 := bx.cell 1
  simp at bxc0 bxc1
  have lbt := bt.lt
  have btc0 := bt.cell 0
  have btc1 := bt.cell 1
  have btc2 := bt.cell 2
  have btc3 := bt.cell 3
  simp at btc0 btc1 btc2 btc3
  have lb2 := b2.lt
  have b2c0 := b2.cell 0
  have b2c1 := b2.cell 1
  simp at b2c0 b2c1
  go_wp2_with fail
  clear lbx bxc0 bxc1
  clear lbt btc0 btc1 btc2 btc3
  clear lb2 b2c0 b2c1
  refine (isTest_any N ⟨p, q, lo, hi⟩ _ (by omega)).mono ?_
  rintro e w3 ⟨rfl, hb⟩
  replace hC : Below n0 w w3 := hC.trans (hb.mono (by have := hC.size; omega))
  replace hR := (RS.below hR hb).more hb.size
  replace bx := bx.below hb bx.lt
  replace bt := bt.below hb bt.lt
  replace b2 := b2.below hb b2.lt
  clear hb
  rw [HT.out]
  have lbx := bx.lt
  have bxc0 := bx.cell 0
  have bxc1 := bx.cell 1
  simp at bxc0 bxc1
  have lbt := bt.lt
  have btc0 := bt.cell 0
  have btc1 := bt.cell 1
  have btc2 := bt.cell 2
  have btc3 := bt.cell 3
  simp at btc0 btc1 btc2 btc3
  have lb2 := b2.lt
  have b2c0 := b2.cell 0
  have b2c1 := b2.cell 1
  simp at b2c0 b2c1
  obtain ⟨a, ha⟩ : ∃ a, x2 % N = a := ⟨_, rfl⟩
  obtain ⟨m, hm⟩ : ∃ m, y2 % (N - 1) = m := ⟨_, rfl⟩
  obtain ⟨z, hz⟩ : ∃ z, (a + 1 + m) % N = z := ⟨_, rfl⟩
  have haN : a < N := by rw [← ha]; exact Nat.mod_lt _ (by omega)
  have hmN : m < N - 1 := by rw [← hm]; exact Nat.mod_lt _ (by omega)
  have hzN : z < N := by rw [← hz]; exact Nat.mod_lt _ (by omega)
  have hne : a ≠ z := by rw [← hz]; exact (other_ne haN hmN).symm
  have e1 : (x2 : Int) % (N : Int) = (a : Int) := by rw [rem_nat, ha]
  have e2 : (y2 : Int) % ((N : Int) - 1) = (m : Int) := by rw [show (N : Int) - 1 = ((N - 1 : Nat) : Int) by omega, rem_nat, hm]
  have e3 : ((a : Int) + 1 + (m : Int)) % (N : Int) = (z : Int) := by rw [show (a : Int) + 1 + (m : Int) = ((a + 1 + m : Nat) : Int) by omega, rem_nat, hz]
  have t1 : (x2 : Int).tmod (N : Int) = (a : Int) := by rw [tmod_nat, ha]
  have t2 : (y2 : Int).tmod ((N : Int) - 1) = (m : Int) := by rw [show (N : Int) - 1 = ((N - 1 : Nat) : Int) by omega, tmod_nat, hm]
  have t3 : ((a : Int) + 1 + (m : Int)).tmod (N : Int) = (z : Int) := by rw [show (a : Int) + 1 + (m : Int) = ((a + 1 + m : Nat) : Int) by omega, tmod_nat, hz]
  have ye0 : ((N : Int) == 0) = false := beq_eq_false_iff_ne.2 (by omega)
  have ye1 : ((N : Int) - 1 == 0) = false := beq_eq_false_iff_ne.2 (by omega)
  have ye2 : (N : Int) ≠ 0 := by omega
  have ye3 : (N : Int) - 1 ≠ 0 := by omega
  have g1 : IntKind.i64.wrap (x2 : Int) = (x2 : Int) := by rw [IntKind.wrap_i64]; omega
  have g2 : IntKind.i64.wrap (y2 : Int) = (y2 : Int) := by rw [IntKind.wrap_i64]; omega
  have g3 : IntKind.i64.wrap (a : Int) = (a : Int) := by rw [IntKind.wrap_i64]; omega
  have g4 : IntKind.i64.wrap (m : Int) = (m : Int) := by rw [IntKind.wrap_i64]; omega
  have g5 : IntKind.i64.wrap (z : Int) = (z : Int) := by rw [IntKind.wrap_i64]; omega
  have g6 : IntKind.i64.wrap ((N : Int) - 1) = (N : Int) - 1 := by rw [IntKind.wrap_i64]; omega
  have g7 : IntKind.i64.wrap ((a : Int) + 1) = (a : Int) + 1 := by rw [IntKind.wrap_i64]; omega
  have g8 : IntKind.i64.wrap ((a : Int) + 1 + (m : Int)) = (a : Int) + 1 + (m : Int) := by rw [IntKind.wrap_i64]; omega
  clear ha hm hz
  go_upto_region 9 with fail
  go_quiet (fail)
  go_upto_region 10 with fail
  clear lbx bxc0 bxc1
  clear lbt btc0 btc1 btc2 btc3
  clear lb2 b2c0 b2c1
  clear e1 e2 e3 t1 t2 t3 ye0 ye1 ye2 ye3 g1 g2 g3 g4 g5 g6 g7 g8
  have hb : Below w3.heap.size w3 (w3.drewN nq) := by exact bel_of
  replace hC : Below n0 w (w3.drewN nq) := hC.trans (hb.mono (by have := hC.size; omega))
  replace hR := (RS.below hR hb).more hb.size
  replace bx := bx.below hb bx.lt
  replace bt := bt.below hb bt.lt
  replace b2 := b2.below hb b2.lt
  clear hb
  generalize (w3.drewN nq) = WQ at *
  have lbx := bx.lt
  have bxc0 := bx.cell 0
  have bxc1 := bx.cell 1
  simp at bxc0 bxc1
  have lbt := bt.lt
  have btc0 := bt.cell 0
  have btc1 := bt.cell 1
  have btc2 := bt.cell 2
  have btc3 := bt.cell 3
  simp at btc0 btc1 btc2 btc3
  refine wp_cut (fun a' a2 w2 => ∃ z1 z2 z3 z4 z5 z6 z7 z8 z9 z10 : Value, ∃ (gx nr : Nat) (Ar : Option Addr) (cr : Nat), a2 = (((((((((((a'.put (some 82) z1).put (some 83) z2).put (some 84) z3).put (some 85) z4).put (some 86) z5).put (some 87) z6).put (some 88) z7).put (some 89) z8).put (some 90) z9).put (some 91) z10).put (some 11) (.pointer (some ⟨gx, 0, none⟩))) ∧ BK w2 gx #[.int .i64 N, .slice Ar nr cr] 24 ∧ OwnT w2 WQ.heap.size (.slice Ar nr cr) (ts ++ [⟨p, q, lo, hi⟩]) ∧ Below WQ.heap.size WQ w2) ?_ ?_
  case refine_1 =>
    have hRr := hR
    clear hR
    have d0y : Below WQ.heap.size WQ WQ.drew := by exact bel_of
    refine wp_region_noPanic (plain_any [0, 1, 3, 4, 6, 9] (Below WQ.heap.size WQ) mixed ?_)
    (refine any_take 0 ?_ (by rfl) (by kernel_rfl) (fun _ _ _ _ _ hx => hx.elim) (.inl ⟨by rfl, ?_⟩) (by with_reducible assumption) ?_; rotate_left; (intro X hX; obtain ⟨r1, r2⟩ := Below.rules hX; clear hX; go_simp; rfl); simp only [List.getElem_toArray, List.getElem_cons_succ, List.getElem_cons_zero, Act.put, List.setIfInBounds_toArray, List.set_cons_succ, List.set_cons_zero])
    (refine any_take 1 ?_ (by rfl) (by kernel_rfl) (fun _ _ _ _ _ hx => hx.elim) (.inl ⟨by rfl, ?_⟩) (by with_reducible assumption) ?_; rotate_left; (intro X hX; obtain ⟨r1, r2⟩ := Below.rules hX; clear hX; go_simp; rfl); simp only [List.getElem_toArray, List.getElem_cons_succ, List.getElem_cons_zero, Act.put, List.setIfInBounds_toArray, List.set_cons_succ, List.set_cons_zero])
    (refine any_take 3 ?_ (by rfl) (by kernel_rfl) (fun _ _ _ _ _ hx => hx.elim) (.inl ⟨by rfl, ?_⟩) (by with_reducible assumption) ?_; rotate_left; (intro X hX; obtain ⟨r1, r2⟩ := Below.rules hX; clear hX; go_simp; rfl); simp only [List.getElem_toArray, List.getElem_cons_succ, List.getElem_cons_zero, Act.put, List.setIfInBounds_toArray, List.set_cons_succ, List.set_cons_zero])
    (refine any_take 4 ?_ (by rfl) (by kernel_rfl) (fun _ _ _ _ _ hx => hx.elim) (.inl ⟨by rfl, ?_⟩) (by with_reducible assumption) ?_; rotate_left; (intro X hX; obtain ⟨r1, r2⟩ := Below.rules hX; clear hX; go_simp; rfl); simp only [List.getElem_toArray, List.getElem_cons_succ, List.getElem_cons_zero, Act.put, List.setIfInBounds_toArray, List.set_cons_succ, List.set_cons_zero])
    (refine any_take 6 ?_ (by rfl) (by kernel_rfl) (fun _ _ _ _ _ hx => hx.elim) (.inl ⟨by rfl, ?_⟩) (by with_reducible assumption) ?_; rotate_left; (intro X hX; obtain ⟨r1, r2⟩ := Below.rules hX; clear hX; go_simp; rfl); simp only [List.getElem_toArray, List.getElem_cons_succ, List.getElem_cons_zero, Act.put, List.setIfInBounds_toArray, List.set_cons_succ, List.set_cons_zero])
    have dy1 : Below WQ.heap.size WQ WQ.drew := by exact bel_of
    have hdr : Below WQ.heap.size WQ WQ.drew := Below.drew (Below.refl _ _)
    replace hRr := (RS.below hRr hdr).more hdr.size
    clear hdr
    generalize WQ.drew = uy2 at *
    refine any_run3 (i := 2) (j := 7) (k := 10) (by kernel_rfl) (by rfl) (by rfl) (by rfl) (by rfl) (by rfl) (by rfl) ?_ ?_ ?_
    ·skip
     intro K hK
     have qy4 := dy1.size
     have ey3 : Below WQ.heap.size WQ (uy2.alloc (.cells #[] 56)) := Below.alloc dy1 dy1.size _
     have hnx : Below uy2.heap.size uy2 (uy2.alloc (.cells #[] 56)) := Below.alloc (Below.refl _ _) (Nat.le_refl _) _
     go_wp2_with fail
     replace hRr := (RS.below hRr hnx).more hnx.size
     have em : BK (uy2.alloc (.cells #[] 56)) uy2.heap.size #[] 56 := BK.new _ _ _
     refine hK _ _ (fun _ => ey3) ?_
     clear hK K hnx
     generalize (uy2.alloc (.cells #[] 56)) = vy5 at *
     obtain ⟨gem, hgem⟩ : ∃ g, uy2.heap.size = g := ⟨_, rfl⟩
     have hqem : WQ.heap.size ≤ gem := by omega
     rw [hgem] at em
     try rw [hgem]
     clear hgem
     refine any_run3 (i := 5) (j := 7) (k := 10) (by kernel_rfl) (by rfl) (by rfl) (by rfl) (by rfl) (by rfl) (by rfl) ?_ ?_ ?_
     ·skip
      intro K hK
      obtain ⟨xy8, vy7, hrun, hown, hbel, hsz, hkeep⟩ := app_all_kt (base := WQ.heap.size) em hqem hRr (by omega) ey3.size
      have HRUN := Lib.hid hrun; clear hrun
      have ey6 : Below WQ.heap.size WQ vy7 := hbel _ ey3
      clear em hRr; have oT := hown; clear hown hkeep hbel
      refine wp_append_run (.tmp 84) (.tmp 86) 22 _ rfl HRUN.out ?_
      refine hK _ _ (fun _ => ey6) ?_
      clear hK K HRUN
      simp only [List.getElem_toArray, List.getElem_cons_succ, List.getElem_cons_zero, Act.put, List.setIfInBounds_toArray, List.set_cons_succ, List.set_cons_zero]
      refine any_run2 (i := 7) (j := 10) (by kernel_rfl) (by rfl) (by rfl) (by rfl) (by rfl) ?_ ?_
      ·skip
       intro K hK
       have qy10 := ey6.size
       have ey9 : Below WQ.heap.size WQ (vy7.alloc (.cells #[.int .i64 p, .int .i64 q, .int .i64 lo, .int .i64 hi] 56)) := Below.alloc ey6 ey6.size _
       have hnx : Below vy7.heap.size vy7 (vy7.alloc (.cells #[.int .i64 p, .int .i64 q, .int .i64 lo, .int .i64 hi] 56)) := Below.alloc (Below.refl _ _) (Nat.le_refl _) _
       go_wp2_with fail
       replace oT := OwnT.below oT hnx
       have el : BK (vy7.alloc (.cells #[.int .i64 p, .int .i64 q, .int .i64 lo, .int .i64 hi] 56)) vy7.heap.size #[.int .i64 p, .int .i64 q, .int .i64 lo, .int .i64 hi] 56 := BK.new _ _ _
       refine hK _ _ (fun _ => ey9) ?_
       clear hK K hnx
       generalize (vy7.alloc (.cells #[.int .i64 p, .int .i64 q, .int .i64 lo, .int .i64 hi] 56)) = vy11 at *
       obtain ⟨gel, hgel⟩ : ∃ g, vy7.heap.size = g := ⟨_, rfl⟩
       have hqel : WQ.heap.size ≤ gel := by omega
       rw [hgel] at el
       try rw [hgel]
       clear hgel
       refine any_run2 (i := 8) (j := 10) (by kernel_rfl) (by rfl) (by rfl) (by rfl) (by rfl) ?_ ?_
       ·skip
        intro K hK
        obtain ⟨xy14, vy13, hrun, hown, hbel, hsz, hkeep⟩ := app_b_kt (x := ⟨p, q, lo, hi⟩) oT el (by omega) ey9.size
        have HRUN := Lib.hid hrun; clear hrun
        have ey12 : Below WQ.heap.size WQ vy13 := hbel _ ey9
        clear oT el; have oT := hown; clear hown hkeep hbel
        refine wp_append_run (.tmp 87) (.tmp 89) 22 _ rfl HRUN.out ?_
        refine hK _ _ (fun _ => ey12) ?_
        clear hK K HRUN
        simp only [List.getElem_toArray, List.getElem_cons_succ, List.getElem_cons_zero, Act.put, List.setIfInBounds_toArray, List.set_cons_succ, List.set_cons_zero]
        obtain ⟨Ar, cr, rfl⟩ := own_slice oT
        generalize (ts ++ [(⟨p, q, lo, hi⟩ : Kt)]).length = nr at *
        (refine any_take 9 ?_ (by rfl) (by kernel_rfl) (fun _ _ _ _ _ hx => hx.elim) (.inl ⟨by rfl, ?_⟩) (by with_reducible assumption) ?_; rotate_left; (intro X hX; obtain ⟨r1, r2⟩ := Below.rules hX; clear hX; go_simp; rfl); simp only [List.getElem_toArray, List.getElem_cons_succ, List.getElem_cons_zero, Act.put, List.setIfInBounds_toArray, List.set_cons_succ, List.set_cons_zero])
        refine any_run1 (i := 10) (by kernel_rfl) (by rfl) (by kernel_rfl) ?_
        intro K hK
        have qy16 := ey12.size
        have ey15 : Below WQ.heap.size WQ (vy13.alloc (.cells #[.int .i64 0, .slice none 0 0] 24)) := Below.alloc ey12 ey12.size _
        have hnx : Below vy13.heap.size vy13 (vy13.alloc (.cells #[.int .i64 0, .slice none 0 0] 24)) := Below.alloc (Below.refl _ _) (Nat.le_refl _) _
        go_wp2_with fail
        replace oT := OwnT.below oT hnx
        have xx : BK (vy13.alloc (.cells #[.int .i64 0, .slice none 0 0] 24)) vy13.heap.size #[.int .i64 0, .slice none 0 0] 24 := BK.new _ _ _
        refine hK _ _ (fun _ => ey15) ?_
        clear hK K hnx
        generalize (vy13.alloc (.cells #[.int .i64 0, .slice none 0 0] 24)) = vy17 at *
        obtain ⟨gxx, hgxx⟩ : ∃ g, vy13.heap.size = g := ⟨_, rfl⟩
        have hqxx : WQ.heap.size ≤ gxx := by omega
        rw [hgxx] at xx
        try rw [hgxx]
        clear hgxx
        refine any_run1 (i := 11) (by kernel_rfl) (by rfl) (by kernel_rfl) ?_
        intro K hK
        have lxx := xx.lt
        have xxc0 := xx.cell 0
        have xxc1 := xx.cell 1
        simp at xxc0 xxc1
        have xxf0 := xx.frozen 0
        have xxf1 := xx.frozen 1
        go_wp2_with fail
        refine hK _ _ (fun hx => (Bool.false_ne_true (hx.symm.trans (by kernel_rfl))).elim) ?_
        clear hK K lxx xxc0 xxc1 xxf0 xxf1
        refine any_done (by kernel_rfl) (NoPanic.normal ?_)
        have hC8 : Below WQ.heap.size WQ ((vy17.setCell ⟨gxx, 0, none⟩ (.int .i64 N)).setCell ⟨gxx, 1, none⟩ (.slice Ar nr cr)) := Below.setCell (Below.setCell ey15 hqxx _) hqxx _
        have rs2 := (xx.set 0 (.int .i64 N)).set 1 (.slice Ar nr cr)
        simp at rs2
        have hne : (Value.slice Ar nr cr).ownBlock ≠ some gxx := fun hq => by
          obtain ⟨c, hc⟩ := own_block oT hq
          have hr := xx
          unfold BK at hr
          rw [hr] at hc
          injection hc with hc
          injection hc with _ hc
          exact absurd hc (by decide)
        exact ⟨_, _, _, _, _, _, _, _, _, _, gxx, nr, Ar, cr, rfl, rs2, own_far (own_far oT (p := ⟨gxx, 0, none⟩) hne (.int .i64 N)) (p := ⟨gxx, 1, none⟩) hne (.slice Ar nr cr), hC8⟩
       ·skip
        intro K hK
        have qy19 := ey9.size
        have ey18 : Below WQ.heap.size WQ (vy11.alloc (.cells #[.int .i64 0, .slice none 0 0] 24)) := Below.alloc ey9 ey9.size _
        have hnx : Below vy11.heap.size vy11 (vy11.alloc (.cells #[.int .i64 0, .slice none 0 0] 24)) := Below.alloc (Below.refl _ _) (Nat.le_refl _) _
        go_wp2_with fail
        replace el := el.below hnx el.lt
        replace oT := OwnT.below oT hnx
        have xx : BK (vy11.alloc (.cells #[.int .i64 0, .slice none 0 0] 24)) vy11.heap.size #[.int .i64 0, .slice none 0 0] 24 := BK.new _ _ _
        refine hK _ _ (fun _ => ey18) ?_
        clear hK K hnx
        generalize (vy11.alloc (.cells #[.int .i64 0, .slice none 0 0] 24)) = vy20 at *
        obtain ⟨gxx, hgxx⟩ : ∃ g, vy11.heap.size = g := ⟨_, rfl⟩
        have hqxx : WQ.heap.size ≤ gxx := by omega
        rw [hgxx] at xx
        try rw [hgxx]
        clear hgxx
        refine any_run1 (i := 8) (by kernel_rfl) (by rfl) (by kernel_rfl) ?_
        intro K hK
        obtain ⟨xy23, vy22, hrun, hown, hbel, hsz, hkeep⟩ := app_b_kt (x := ⟨p, q, lo, hi⟩) oT el (by omega) ey18.size
        have HRUN := Lib.hid hrun; clear hrun
        have ey21 : Below WQ.heap.size WQ vy22 := hbel _ ey18
        have xx_ := hkeep _ _ _ xx (by decide); clear xx; have xx := xx_; clear xx_
        clear oT el; have oT := hown; clear hown hkeep hbel
        refine wp_append_run (.tmp 87) (.tmp 89) 22 _ rfl HRUN.out ?_
        refine hK _ _ (fun _ => ey21) ?_
        clear hK K HRUN
        simp only [List.getElem_toArray, List.getElem_cons_succ, List.getElem_cons_zero, Act.put, List.setIfInBounds_toArray, List.set_cons_succ, List.set_cons_zero]
        obtain ⟨Ar, cr, rfl⟩ := own_slice oT
        generalize (ts ++ [(⟨p, q, lo, hi⟩ : Kt)]).length = nr at *
        (refine any_take 9 ?_ (by rfl) (by kernel_rfl) (fun _ _ _ _ _ hx => hx.elim) (.inl ⟨by rfl, ?_⟩) (by with_reducible assumption) ?_; rotate_left; (intro X hX; obtain ⟨r1, r2⟩ := Below.rules hX; clear hX; go_simp; rfl); simp only [List.getElem_toArray, List.getElem_cons_succ, List.getElem_cons_zero, Act.put, List.setIfInBounds_toArray, List.set_cons_succ, List.set_cons_zero])
        refine any_run1 (i := 11) (by kernel_rfl) (by rfl) (by kernel_rfl) ?_
        intro K hK
        have lxx := xx.lt
        have xxc0 := xx.cell 0
        have xxc1 := xx.cell 1
        simp at xxc0 xxc1
        have xxf0 := xx.frozen 0
        have xxf1 := xx.frozen 1
        go_wp2_with fail
        refine hK _ _ (fun hx => (Bool.false_ne_true (hx.symm.trans (by kernel_rfl))).elim) ?_
        clear hK K lxx xxc0 xxc1 xxf0 xxf1
        refine any_done (by kernel_rfl) (NoPanic.normal ?_)
        have hC8 : Below WQ.heap.size WQ ((vy22.setCell ⟨gxx, 0, none⟩ (.int .i64 N)).setCell ⟨gxx, 1, none⟩ (.slice Ar nr cr)) := Below.setCell (Below.setCell ey21 hqxx _) hqxx _
        have rs2 := (xx.set 0 (.int .i64 N)).set 1 (.slice Ar nr cr)
        simp at rs2
        have hne : (Value.slice Ar nr cr).ownBlock ≠ some gxx := fun hq => by
          obtain ⟨c, hc⟩ := own_block oT hq
          have hr := xx
          unfold BK at hr
          rw [hr] at hc
          injection hc with hc
          injection hc with _ hc
          exact absurd hc (by decide)
        exact ⟨_, _, _, _, _, _, _, _, _, _, gxx, nr, Ar, cr, rfl, rs2, own_far (own_far oT (p := ⟨gxx, 0, none⟩) hne (.int .i64 N)) (p := ⟨gxx, 1, none⟩) hne (.slice Ar nr cr), hC8⟩
      ·skip
       intro K hK
       have qy25 := ey6.size
       have ey24 : Below WQ.heap.size WQ (vy7.alloc (.cells #[.int .i64 0, .slice none 0 0] 24)) := Below.alloc ey6 ey6.size _
       have hnx : Below vy7.heap.size vy7 (vy7.alloc (.cells #[.int .i64 0, .slice none 0 0] 24)) := Below.alloc (Below.refl _ _) (Nat.le_refl _) _
       go_wp2_with fail
       replace oT := OwnT.below oT hnx
       have xx : BK (vy7.alloc (.cells #[.int .i64 0, .slice none 0 0] 24)) vy7.heap.size #[.int .i64 0, .slice none 0 0] 24 := BK.new _ _ _
       refine hK _ _ (fun _ => ey24) ?_
       clear hK K hnx
       generalize (vy7.alloc (.cells #[.int .i64 0, .slice none 0 0] 24)) = vy26 at *
       obtain ⟨gxx, hgxx⟩ : ∃ g, vy7.heap.size = g := ⟨_, rfl⟩
       have hqxx : WQ.heap.size ≤ gxx := by omega
       rw [hgxx] at xx
       try rw [hgxx]
       clear hgxx
       refine any_run1 (i := 7) (by kernel_rfl) (by rfl) (by kernel_rfl) ?_
       intro K hK
       have qy28 := ey24.size
       have ey27 : Below WQ.heap.size WQ (vy26.alloc (.cells #[.int .i64 p, .int .i64 q, .int .i64 lo, .int .i64 hi] 56)) := Below.alloc ey24 ey24.size _
       have hnx : Below vy26.heap.size vy26 (vy26.alloc (.cells #[.int .i64 p, .int .i64 q, .int .i64 lo, .int .i64 hi] 56)) := Below.alloc (Below.refl _ _) (Nat.le_refl _) _
       go_wp2_with fail
       replace xx := xx.below hnx xx.lt
       replace oT := OwnT.below oT hnx
       have el : BK (vy26.alloc (.cells #[.int .i64 p, .int .i64 q, .int .i64 lo, .int .i64 hi] 56)) vy26.heap.size #[.int .i64 p, .int .i64 q, .int .i64 lo, .int .i64 hi] 56 := BK.new _ _ _
       refine hK _ _ (fun _ => ey27) ?_
       clear hK K hnx
       generalize (vy26.alloc (.cells #[.int .i64 p, .int .i64 q, .int .i64 lo, .int .i64 hi] 56)) = vy29 at *
       obtain ⟨gel, hgel⟩ : ∃ g, vy26.heap.size = g := ⟨_, rfl⟩
       have hqel : WQ.heap.size ≤ gel := by omega
       rw [hgel] at el
       try rw [hgel]
       clear hgel
       refine any_run1 (i := 8) (by kernel_rfl) (by rfl) (by kernel_rfl) ?_
       intro K hK
       obtain ⟨xy32, vy31, hrun, hown, hbel, hsz, hkeep⟩ := app_b_kt (x := ⟨p, q, lo, hi⟩) oT el (by omega) ey27.size
       have HRUN := Lib.hid hrun; clear hrun
       have ey30 : Below WQ.heap.size WQ vy31 := hbel _ ey27
       have xx_ := hkeep _ _ _ xx (by decide); clear xx; have xx := xx_; clear xx_
       clear oT el; have oT := hown; clear hown hkeep hbel
       refine wp_append_run (.tmp 87) (.tmp 89) 22 _ rfl HRUN.out ?_
       refine hK _ _ (fun _ => ey30) ?_
       clear hK K HRUN
       simp only [List.getElem_toArray, List.getElem_cons_succ, List.getElem_cons_zero, Act.put, List.setIfInBounds_toArray, List.set_cons_succ, List.set_cons_zero]
       obtain ⟨Ar, cr, rfl⟩ := own_slice oT
       generalize (ts ++ [(⟨p, q, lo, hi⟩ : Kt)]).length = nr at *
       (refine any_take 9 ?_ (by rfl) (by kernel_rfl) (fun _ _ _ _ _ hx => hx.elim) (.inl ⟨by rfl, ?_⟩) (by with_reducible assumption) ?_; rotate_left; (intro X hX; obtain ⟨r1, r2⟩ := Below.rules hX; clear hX; go_simp; rfl); simp only [List.getElem_toArray, List.getElem_cons_succ, List.getElem_cons_zero, Act.put, List.setIfInBounds_toArray, List.set_cons_succ, List.set_cons_zero])
       refine any_run1 (i := 11) (by kernel_rfl) (by rfl) (by kernel_rfl) ?_
       intro K hK
       have lxx := xx.lt
       have xxc0 := xx.cell 0
       have xxc1 := xx.cell 1
       simp at xxc0 xxc1
       have xxf0 := xx.frozen 0
       have xxf1 := xx.frozen 1
       go_wp2_with fail
       refine hK _ _ (fun hx => (Bool.false_ne_true (hx.symm.trans (by kernel_rfl))).elim) ?_
       clear hK K lxx xxc0 xxc1 xxf0 xxf1
       refine any_done (by kernel_rfl) (NoPanic.normal ?_)
       have hC8 : Below WQ.heap.size WQ ((vy31.setCell ⟨gxx, 0, none⟩ (.int .i64 N)).setCell ⟨gxx, 1, none⟩ (.slice Ar nr cr)) := Below.setCell (Below.setCell ey30 hqxx _) hqxx _
       have rs2 := (xx.set 0 (.int .i64 N)).set 1 (.slice Ar nr cr)
       simp at rs2
       have hne : (Value.slice Ar nr cr).ownBlock ≠ some gxx := fun hq => by
         obtain ⟨c, hc⟩ := own_block oT hq
         have hr := xx
         unfold BK at hr
         rw [hr] at hc
         injection hc with hc
         injection hc with _ hc
         exact absurd hc (by decide)
       exact ⟨_, _, _, _, _, _, _, _, _, _, gxx, nr, Ar, cr, rfl, rs2, own_far (own_far oT (p := ⟨gxx, 0, none⟩) hne (.int .i64 N)) (p := ⟨gxx, 1, none⟩) hne (.slice Ar nr cr), hC8⟩
     ·skip
      intro K hK
      have qy34 := ey3.size
      have ey33 : Below WQ.heap.size WQ (vy5.alloc (.cells #[.int .i64 p, .int .i64 q, .int .i64 lo, .int .i64 hi] 56)) := Below.alloc ey3 ey3.size _
      have hnx : Below vy5.heap.size vy5 (vy5.alloc (.cells #[.int .i64 p, .int .i64 q, .int .i64 lo, .int .i64 hi] 56)) := Below.alloc (Below.refl _ _) (Nat.le_refl _) _
      go_wp2_with fail
      replace em := em.below hnx em.lt
      replace hRr := (RS.below hRr hnx).more hnx.size
      have el : BK (vy5.alloc (.cells #[.int .i64 p, .int .i64 q, .int .i64 lo, .int .i64 hi] 56)) vy5.heap.size #[.int .i64 p, .int .i64 q, .int .i64 lo, .int .i64 hi] 56 := BK.new _ _ _
      refine hK _ _ (fun _ => ey33) ?_
      clear hK K hnx
      generalize (vy5.alloc (.cells #[.int .i64 p, .int .i64 q, .int .i64 lo, .int .i64 hi] 56)) = vy35 at *
      obtain ⟨gel, hgel⟩ : ∃ g, vy5.heap.size = g := ⟨_, rfl⟩
      have hqel : WQ.heap.size ≤ gel := by omega
      rw [hgel] at el
      try rw [hgel]
      clear hgel
      refine any_run2 (i := 5) (j := 10) (by kernel_rfl) (by rfl) (by rfl) (by rfl) (by rfl) ?_ ?_
      ·skip
       intro K hK
       obtain ⟨xy38, vy37, hrun, hown, hbel, hsz, hkeep⟩ := app_all_kt (base := WQ.heap.size) em hqem hRr (by omega) ey33.size
       have HRUN := Lib.hid hrun; clear hrun
       have ey36 : Below WQ.heap.size WQ vy37 := hbel _ ey33
       have el_ := hkeep _ _ _ el (by simp); clear el; have el := el_; clear el_
       clear em hRr; have oT := hown; clear hown hkeep hbel
       refine wp_append_run (.tmp 84) (.tmp 86) 22 _ rfl HRUN.out ?_
       refine hK _ _ (fun _ => ey36) ?_
       clear hK K HRUN
       simp only [List.getElem_toArray, List.getElem_cons_succ, List.getElem_cons_zero, Act.put, List.setIfInBounds_toArray, List.set_cons_succ, List.set_cons_zero]
       refine any_run2 (i := 8) (j := 10) (by kernel_rfl) (by rfl) (by rfl) (by rfl) (by rfl) ?_ ?_
       ·skip
        intro K hK
        obtain ⟨xy41, vy40, hrun, hown, hbel, hsz, hkeep⟩ := app_b_kt (x := ⟨p, q, lo, hi⟩) oT el (by omega) ey36.size
        have HRUN := Lib.hid hrun; clear hrun
        have ey39 : Below WQ.heap.size WQ vy40 := hbel _ ey36
        clear oT el; have oT := hown; clear hown hkeep hbel
        refine wp_append_run (.tmp 87) (.tmp 89) 22 _ rfl HRUN.out ?_
        refine hK _ _ (fun _ => ey39) ?_
        clear hK K HRUN
        simp only [List.getElem_toArray, List.getElem_cons_succ, List.getElem_cons_zero, Act.put, List.setIfInBounds_toArray, List.set_cons_succ, List.set_cons_zero]
        obtain ⟨Ar, cr, rfl⟩ := own_slice oT
        generalize (ts ++ [(⟨p, q, lo, hi⟩ : Kt)]).length = nr at *
        (refine any_take 9 ?_ (by rfl) (by kernel_rfl) (fun _ _ _ _ _ hx => hx.elim) (.inl ⟨by rfl, ?_⟩) (by with_reducible assumption) ?_; rotate_left; (intro X hX; obtain ⟨r1, r2⟩ := Below.rules hX; clear hX; go_simp; rfl); simp only [List.getElem_toArray, List.getElem_cons_succ, List.getElem_cons_zero, Act.put, List.setIfInBounds_toArray, List.set_cons_succ, List.set_cons_zero])
        refine any_run1 (i := 10) (by kernel_rfl) (by rfl) (by kernel_rfl) ?_
        intro K hK
        have qy43 := ey39.size
        have ey42 : Below WQ.heap.size WQ (vy40.alloc (.cells #[.int .i64 0, .slice none 0 0] 24)) := Below.alloc ey39 ey39.size _
        have hnx : Below vy40.heap.size vy40 (vy40.alloc (.cells #[.int .i64 0, .slice none 0 0] 24)) := Below.alloc (Below.refl _ _) (Nat.le_refl _) _
        go_wp2_with fail
        replace oT := OwnT.below oT hnx
        have xx : BK (vy40.alloc (.cells #[.int .i64 0, .slice none 0 0] 24)) vy40.heap.size #[.int .i64 0, .slice none 0 0] 24 := BK.new _ _ _
        refine hK _ _ (fun _ => ey42) ?_
        clear hK K hnx
        generalize (vy40.alloc (.cells #[.int .i64 0, .slice none 0 0] 24)) = vy44 at *
        obtain ⟨gxx, hgxx⟩ : ∃ g, vy40.heap.size = g := ⟨_, rfl⟩
        have hqxx : WQ.heap.size ≤ gxx := by omega
        rw [hgxx] at xx
        try rw [hgxx]
        clear hgxx
        refine any_run1 (i := 11) (by kernel_rfl) (by rfl) (by kernel_rfl) ?_
        intro K hK
        have lxx := xx.lt
        have xxc0 := xx.cell 0
        have xxc1 := xx.cell 1
        simp at xxc0 xxc1
        have xxf0 := xx.frozen 0
        have xxf1 := xx.frozen 1
        go_wp2_with fail
        refine hK _ _ (fun hx => (Bool.false_ne_true (hx.symm.trans (by kernel_rfl))).elim) ?_
        clear hK K lxx xxc0 xxc1 xxf0 xxf1
        refine any_done (by kernel_rfl) (NoPanic.normal ?_)
        have hC8 : Below WQ.heap.size WQ ((vy44.setCell ⟨gxx, 0, none⟩ (.int .i64 N)).setCell ⟨gxx, 1, none⟩ (.slice Ar nr cr)) := Below.setCell (Below.setCell ey42 hqxx _) hqxx _
        have rs2 := (xx.set 0 (.int .i64 N)).set 1 (.slice Ar nr cr)
        simp at rs2
        have hne : (Value.slice Ar nr cr).ownBlock ≠ some gxx := fun hq => by
          obtain ⟨c, hc⟩ := own_block oT hq
          have hr := xx
          unfold BK at hr
          rw [hr] at hc
          injection hc with hc
          injection hc with _ hc
          exact absurd hc (by decide)
        exact ⟨_, _, _, _, _, _, _, _, _, _, gxx, nr, Ar, cr, rfl, rs2, own_far (own_far oT (p := ⟨gxx, 0, none⟩) hne (.int .i64 N)) (p := ⟨gxx, 1, none⟩) hne (.slice Ar nr cr), hC8⟩
       ·skip
        intro K hK
        have qy46 := ey36.size
        have ey45 : Below WQ.heap.size WQ (vy37.alloc (.cells #[.int .i64 0, .slice none 0 0] 24)) := Below.alloc ey36 ey36.size _
        have hnx : Below vy37.heap.size vy37 (vy37.alloc (.cells #[.int .i64 0, .slice none 0 0] 24)) := Below.alloc (Below.refl _ _) (Nat.le_refl _) _
        go_wp2_with fail
        replace el := el.below hnx el.lt
        replace oT := OwnT.below oT hnx
        have xx : BK (vy37.alloc (.cells #[.int .i64 0, .slice none 0 0] 24)) vy37.heap.size #[.int .i64 0, .slice none 0 0] 24 := BK.new _ _ _
        refine hK _ _ (fun _ => ey45) ?_
        clear hK K hnx
        generalize (vy37.alloc (.cells #[.int .i64 0, .slice none 0 0] 24)) = vy47 at *
        obtain ⟨gxx, hgxx⟩ : ∃ g, vy37.heap.size = g := ⟨_, rfl⟩
        have hqxx : WQ.heap.size ≤ gxx := by omega
        rw [hgxx] at xx
        try rw [hgxx]
        clear hgxx
        refine any_run1 (i := 8) (by kernel_rfl) (by rfl) (by kernel_rfl) ?_
        intro K hK
        obtain ⟨xy50, vy49, hrun, hown, hbel, hsz, hkeep⟩ := app_b_kt (x := ⟨p, q, lo, hi⟩) oT el (by omega) ey45.size
        have HRUN := Lib.hid hrun; clear hrun
        have ey48 : Below WQ.heap.size WQ vy49 := hbel _ ey45
        have xx_ := hkeep _ _ _ xx (by decide); clear xx; have xx := xx_; clear xx_
        clear oT el; have oT := hown; clear hown hkeep hbel
        refine wp_append_run (.tmp 87) (.tmp 89) 22 _ rfl HRUN.out ?_
        refine hK _ _ (fun _ => ey48) ?_
        clear hK K HRUN
        simp only [List.getElem_toArray, List.getElem_cons_succ, List.getElem_cons_zero, Act.put, List.setIfInBounds_toArray, List.set_cons_succ, List.set_cons_zero]
        obtain ⟨Ar, cr, rfl⟩ := own_slice oT
        generalize (ts ++ [(⟨p, q, lo, hi⟩ : Kt)]).length = nr at *
        (refine any_take 9 ?_ (by rfl) (by kernel_rfl) (fun _ _ _ _ _ hx => hx.elim) (.inl ⟨by rfl, ?_⟩) (by with_reducible assumption) ?_; rotate_left; (intro X hX; obtain ⟨r1, r2⟩ := Below.rules hX; clear hX; go_simp; rfl); simp only [List.getElem_toArray, List.getElem_cons_succ, List.getElem_cons_zero, Act.put, List.setIfInBounds_toArray, List.set_cons_succ, List.set_cons_zero])
        refine any_run1 (i := 11) (by kernel_rfl) (by rfl) (by kernel_rfl) ?_
        intro K hK
        have lxx := xx.lt
        have xxc0 := xx.cell 0
        have xxc1 := xx.cell 1
        simp at xxc0 xxc1
        have xxf0 := xx.frozen 0
        have xxf1 := xx.frozen 1
        go_wp2_with fail
        refine hK _ _ (fun hx => (Bool.false_ne_true (hx.symm.trans (by kernel_rfl))).elim) ?_
        clear hK K lxx xxc0 xxc1 xxf0 xxf1
        refine any_done (by kernel_rfl) (NoPanic.normal ?_)
        have hC8 : Below WQ.heap.size WQ ((vy49.setCell ⟨gxx, 0, none⟩ (.int .i64 N)).setCell ⟨gxx, 1, none⟩ (.slice Ar nr cr)) := Below.setCell (Below.setCell ey48 hqxx _) hqxx _
        have rs2 := (xx.set 0 (.int .i64 N)).set 1 (.slice Ar nr cr)
        simp at rs2
        have hne : (Value.slice Ar nr cr).ownBlock ≠ some gxx := fun hq => by
          obtain ⟨c, hc⟩ := own_block oT hq
          have hr := xx
          unfold BK at hr
          rw [hr] at hc
          injection hc with hc
          injection hc with _ hc
          exact absurd hc (by decide)
        exact ⟨_, _, _, _, _, _, _, _, _, _, gxx, nr, Ar, cr, rfl, rs2, own_far (own_far oT (p := ⟨gxx, 0, none⟩) hne (.int .i64 N)) (p := ⟨gxx, 1, none⟩) hne (.slice Ar nr cr), hC8⟩
      ·skip
       intro K hK
       have qy52 := ey33.size
       have ey51 : Below WQ.heap.size WQ (vy35.alloc (.cells #[.int .i64 0, .slice none 0 0] 24)) := Below.alloc ey33 ey33.size _
       have hnx : Below vy35.heap.size vy35 (vy35.alloc (.cells #[.int .i64 0, .slice none 0 0] 24)) := Below.alloc (Below.refl _ _) (Nat.le_refl _) _
       go_wp2_with fail
       replace em := em.below hnx em.lt
       replace el := el.below hnx el.lt
       replace hRr := (RS.below hRr hnx).more hnx.size
       have xx : BK (vy35.alloc (.cells #[.int .i64 0, .slice none 0 0] 24)) vy35.heap.size #[.int .i64 0, .slice none 0 0] 24 := BK.new _ _ _
       refine hK _ _ (fun _ => ey51) ?_
       clear hK K hnx
       generalize (vy35.alloc (.cells #[.int .i64 0, .slice none 0 0] 24)) = vy53 at *
       obtain ⟨gxx, hgxx⟩ : ∃ g, vy35.heap.size = g := ⟨_, rfl⟩
       have hqxx : WQ.heap.size ≤ gxx := by omega
       rw [hgxx] at xx
       try rw [hgxx]
       clear hgxx
       refine any_run1 (i := 5) (by kernel_rfl) (by rfl) (by kernel_rfl) ?_
       intro K hK
       obtain ⟨xy56, vy55, hrun, hown, hbel, hsz, hkeep⟩ := app_all_kt (base := WQ.heap.size) em hqem hRr (by omega) ey51.size
       have HRUN := Lib.hid hrun; clear hrun
       have ey54 : Below WQ.heap.size WQ vy55 := hbel _ ey51
       have el_ := hkeep _ _ _ el (by simp); clear el; have el := el_; clear el_
       have xx_ := hkeep _ _ _ xx (by simp); clear xx; have xx := xx_; clear xx_
       clear em hRr; have oT := hown; clear hown hkeep hbel
       refine wp_append_run (.tmp 84) (.tmp 86) 22 _ rfl HRUN.out ?_
       refine hK _ _ (fun _ => ey54) ?_
       clear hK K HRUN
       simp only [List.getElem_toArray, List.getElem_cons_succ, List.getElem_cons_zero, Act.put, List.setIfInBounds_toArray, List.set_cons_succ, List.set_cons_zero]
       refine any_run1 (i := 8) (by kernel_rfl) (by rfl) (by kernel_rfl) ?_
       intro K hK
       obtain ⟨xy59, vy58, hrun, hown, hbel, hsz, hkeep⟩ := app_b_kt (x := ⟨p, q, lo, hi⟩) oT el (by omega) ey54.size
       have HRUN := Lib.hid hrun; clear hrun
       have ey57 : Below WQ.heap.size WQ vy58 := hbel _ ey54
       have xx_ := hkeep _ _ _ xx (by decide); clear xx; have xx := xx_; clear xx_
       clear oT el; have oT := hown; clear hown hkeep hbel
       refine wp_append_run (.tmp 87) (.tmp 89) 22 _ rfl HRUN.out ?_
       refine hK _ _ (fun _ => ey57) ?_
       clear hK K HRUN
       simp only [List.getElem_toArray, List.getElem_cons_succ, List.getElem_cons_zero, Act.put, List.setIfInBounds_toArray, List.set_cons_succ, List.set_cons_zero]
       obtain ⟨Ar, cr, rfl⟩ := own_slice oT
       generalize (ts ++ [(⟨p, q, lo, hi⟩ : Kt)]).length = nr at *
       (refine any_take 9 ?_ (by rfl) (by kernel_rfl) (fun _ _ _ _ _ hx => hx.elim) (.inl ⟨by rfl, ?_⟩) (by with_reducible assumption) ?_; rotate_left; (intro X hX; obtain ⟨r1, r2⟩ := Below.rules hX; clear hX; go_simp; rfl); simp only [List.getElem_toArray, List.getElem_cons_succ, List.getElem_cons_zero, Act.put, List.setIfInBounds_toArray, List.set_cons_succ, List.set_cons_zero])
       refine any_run1 (i := 11) (by kernel_rfl) (by rfl) (by kernel_rfl) ?_
       intro K hK
       have lxx := xx.lt
       have xxc0 := xx.cell 0
       have xxc1 := xx.cell 1
       simp at xxc0 xxc1
       have xxf0 := xx.frozen 0
       have xxf1 := xx.frozen 1
       go_wp2_with fail
       refine hK _ _ (fun hx => (Bool.false_ne_true (hx.symm.trans (by kernel_rfl))).elim) ?_
       clear hK K lxx xxc0 xxc1 xxf0 xxf1
       refine any_done (by kernel_rfl) (NoPanic.normal ?_)
       have hC8 : Below WQ.heap.size WQ ((vy58.setCell ⟨gxx, 0, none⟩ (.int .i64 N)).setCell ⟨gxx, 1, none⟩ (.slice Ar nr cr)) := Below.setCell (Below.setCell ey57 hqxx _) hqxx _
       have rs2 := (xx.set 0 (.int .i64 N)).set 1 (.slice Ar nr cr)
       simp at rs2
       have hne : (Value.slice Ar nr cr).ownBlock ≠ some gxx := fun hq => by
         obtain ⟨c, hc⟩ := own_block oT hq
         have hr := xx
         unfold BK at hr
         rw [hr] at hc
         injection hc with hc
         injection hc with _ hc
         exact absurd hc (by decide)
       exact ⟨_, _, _, _, _, _, _, _, _, _, gxx, nr, Ar, cr, rfl, rs2, own_far (own_far oT (p := ⟨gxx, 0, none⟩) hne (.int .i64 N)) (p := ⟨gxx, 1, none⟩) hne (.slice Ar nr cr), hC8⟩
     ·skip
      intro K hK
      have qy61 := ey3.size
      have ey60 : Below WQ.heap.size WQ (vy5.alloc (.cells #[.int .i64 0, .slice none 0 0] 24)) := Below.alloc ey3 ey3.size _
      have hnx : Below vy5.heap.size vy5 (vy5.alloc (.cells #[.int .i64 0, .slice none 0 0] 24)) := Below.alloc (Below.refl _ _) (Nat.le_refl _) _
      go_wp2_with fail
      replace em := em.below hnx em.lt
      replace hRr := (RS.below hRr hnx).more hnx.size
      have xx : BK (vy5.alloc (.cells #[.int .i64 0, .slice none 0 0] 24)) vy5.heap.size #[.int .i64 0, .slice none 0 0] 24 := BK.new _ _ _
      refine hK _ _ (fun _ => ey60) ?_
      clear hK K hnx
      generalize (vy5.alloc (.cells #[.int .i64 0, .slice none 0 0] 24)) = vy62 at *
      obtain ⟨gxx, hgxx⟩ : ∃ g, vy5.heap.size = g := ⟨_, rfl⟩
      have hqxx : WQ.heap.size ≤ gxx := by omega
      rw [hgxx] at xx
      try rw [hgxx]
      clear hgxx
      refine any_run2 (i := 5) (j := 7) (by kernel_rfl) (by rfl) (by rfl) (by rfl) (by rfl) ?_ ?_
      ·skip
       intro K hK
       obtain ⟨xy65, vy64, hrun, hown, hbel, hsz, hkeep⟩ := app_all_kt (base := WQ.heap.size) em hqem hRr (by omega) ey60.size
       have HRUN := Lib.hid hrun; clear hrun
       have ey63 : Below WQ.heap.size WQ vy64 := hbel _ ey60
       have xx_ := hkeep _ _ _ xx (by simp); clear xx; have xx := xx_; clear xx_
       clear em hRr; have oT := hown; clear hown hkeep hbel
       refine wp_append_run (.tmp 84) (.tmp 86) 22 _ rfl HRUN.out ?_
       refine hK _ _ (fun _ => ey63) ?_
       clear hK K HRUN
       simp only [List.getElem_toArray, List.getElem_cons_succ, List.getElem_cons_zero, Act.put, List.setIfInBounds_toArray, List.set_cons_succ, List.set_cons_zero]
       refine any_run1 (i := 7) (by kernel_rfl) (by rfl) (by kernel_rfl) ?_
       intro K hK
       have qy67 := ey63.size
       have ey66 : Below WQ.heap.size WQ (vy64.alloc (.cells #[.int .i64 p, .int .i64 q, .int .i64 lo, .int .i64 hi] 56)) := Below.alloc ey63 ey63.size _
       have hnx : Below vy64.heap.size vy64 (vy64.alloc (.cells #[.int .i64 p, .int .i64 q, .int .i64 lo, .int .i64 hi] 56)) := Below.alloc (Below.refl _ _) (Nat.le_refl _) _
       go_wp2_with fail
       replace xx := xx.below hnx xx.lt
       replace oT := OwnT.below oT hnx
       have el : BK (vy64.alloc (.cells #[.int .i64 p, .int .i64 q, .int .i64 lo, .int .i64 hi] 56)) vy64.heap.size #[.int .i64 p, .int .i64 q, .int .i64 lo, .int .i64 hi] 56 := BK.new _ _ _
       refine hK _ _ (fun _ => ey66) ?_
       clear hK K hnx
       generalize (vy64.alloc (.cells #[.int .i64 p, .int .i64 q, .int .i64 lo, .int .i64 hi] 56)) = vy68 at *
       obtain ⟨gel, hgel⟩ : ∃ g, vy64.heap.size = g := ⟨_, rfl⟩
       have hqel : WQ.heap.size ≤ gel := by omega
       rw [hgel] at el
       try rw [hgel]
       clear hgel
       refine any_run1 (i := 8) (by kernel_rfl) (by rfl) (by kernel_rfl) ?_
       intro K hK
       obtain ⟨xy71, vy70, hrun, hown, hbel, hsz, hkeep⟩ := app_b_kt (x := ⟨p, q, lo, hi⟩) oT el (by omega) ey66.size
       have HRUN := Lib.hid hrun; clear hrun
       have ey69 : Below WQ.heap.size WQ vy70 := hbel _ ey66
       have xx_ := hkeep _ _ _ xx (by decide); clear xx; have xx := xx_; clear xx_
       clear oT el; have oT := hown; clear hown hkeep hbel
       refine wp_append_run (.tmp 87) (.tmp 89) 22 _ rfl HRUN.out ?_
       refine hK _ _ (fun _ => ey69) ?_
       clear hK K HRUN
       simp only [List.getElem_toArray, List.getElem_cons_succ, List.getElem_cons_zero, Act.put, List.setIfInBounds_toArray, List.set_cons_succ, List.set_cons_zero]
       obtain ⟨Ar, cr, rfl⟩ := own_slice oT
       generalize (ts ++ [(⟨p, q, lo, hi⟩ : Kt)]).length = nr at *
       (refine any_take 9 ?_ (by rfl) (by kernel_rfl) (fun _ _ _ _ _ hx => hx.elim) (.inl ⟨by rfl, ?_⟩) (by with_reducible assumption) ?_; rotate_left; (intro X hX; obtain ⟨r1, r2⟩ := Below.rules hX; clear hX; go_simp; rfl); simp only [List.getElem_toArray, List.getElem_cons_succ, List.getElem_cons_zero, Act.put, List.setIfInBounds_toArray, List.set_cons_succ, List.set_cons_zero])
       refine any_run1 (i := 11) (by kernel_rfl) (by rfl) (by kernel_rfl) ?_
       intro K hK
       have lxx := xx.lt
       have xxc0 := xx.cell 0
       have xxc1 := xx.cell 1
       simp at xxc0 xxc1
       have xxf0 := xx.frozen 0
       have xxf1 := xx.frozen 1
       go_wp2_with fail
       refine hK _ _ (fun hx => (Bool.false_ne_true (hx.symm.trans (by kernel_rfl))).elim) ?_
       clear hK K lxx xxc0 xxc1 xxf0 xxf1
       refine any_done (by kernel_rfl) (NoPanic.normal ?_)
       have hC8 : Below WQ.heap.size WQ ((vy70.setCell ⟨gxx, 0, none⟩ (.int .i64 N)).setCell ⟨gxx, 1, none⟩ (.slice Ar nr cr)) := Below.setCell (Below.setCell ey69 hqxx _) hqxx _
       have rs2 := (xx.set 0 (.int .i64 N)).set 1 (.slice Ar nr cr)
       simp at rs2
       have hne : (Value.slice Ar nr cr).ownBlock ≠ some gxx := fun hq => by
         obtain ⟨c, hc⟩ := own_block oT hq
         have hr := xx
         unfold BK at hr
         rw [hr] at hc
         injection hc with hc
         injection hc with _ hc
         exact absurd hc (by decide)
       exact ⟨_, _, _, _, _, _, _, _, _, _, gxx, nr, Ar, cr, rfl, rs2, own_far (own_far oT (p := ⟨gxx, 0, none⟩) hne (.int .i64 N)) (p := ⟨gxx, 1, none⟩) hne (.slice Ar nr cr), hC8⟩
      ·skip
       intro K hK
       have qy73 := ey60.size
       have ey72 : Below WQ.heap.size WQ (vy62.alloc (.cells #[.int .i64 p, .int .i64 q, .int .i64 lo, .int .i64 hi] 56)) := Below.alloc ey60 ey60.size _
       have hnx : Below vy62.heap.size vy62 (vy62.alloc (.cells #[.int .i64 p, .int .i64 q, .int .i64 lo, .int .i64 hi] 56)) := Below.alloc (Below.refl _ _) (Nat.le_refl _) _
       go_wp2_with fail
       replace em := em.below hnx em.lt
       replace xx := xx.below hnx xx.lt
       replace hRr := (RS.below hRr hnx).more hnx.size
       have el : BK (vy62.alloc (.cells #[.int .i64 p, .int .i64 q, .int .i64 lo, .int .i64 hi] 56)) vy62.heap.size #[.int .i64 p, .int .i64 q, .int .i64 lo, .int .i64 hi] 56 := BK.new _ _ _
       refine hK _ _ (fun _ => ey72) ?_
       clear hK K hnx
       generalize (vy62.alloc (.cells #[.int .i64 p, .int .i64 q, .int .i64 lo, .int .i64 hi] 56)) = vy74 at *
       obtain ⟨gel, hgel⟩ : ∃ g, vy62.heap.size = g := ⟨_, rfl⟩
       have hqel : WQ.heap.size ≤ gel := by omega
       rw [hgel] at el
       try rw [hgel]
       clear hgel
       refine any_run1 (i := 5) (by kernel_rfl) (by rfl) (by kernel_rfl) ?_
       intro K hK
       obtain ⟨xy77, vy76, hrun, hown, hbel, hsz, hkeep⟩ := app_all_kt (base := WQ.heap.size) em hqem hRr (by omega) ey72.size
       have HRUN := Lib.hid hrun; clear hrun
       have ey75 : Below WQ.heap.size WQ vy76 := hbel _ ey72
       have xx_ := hkeep _ _ _ xx (by simp); clear xx; have xx := xx_; clear xx_
       have el_ := hkeep _ _ _ el (by simp); clear el; have el := el_; clear el_
       clear em hRr; have oT := hown; clear hown hkeep hbel
       refine wp_append_run (.tmp 84) (.tmp 86) 22 _ rfl HRUN.out ?_
       refine hK _ _ (fun _ => ey75) ?_
       clear hK K HRUN
       simp only [List.getElem_toArray, List.getElem_cons_succ, List.getElem_cons_zero, Act.put, List.setIfInBounds_toArray, List.set_cons_succ, List.set_cons_zero]
       refine any_run1 (i := 8) (by kernel_rfl) (by rfl) (by kernel_rfl) ?_
       intro K hK
       obtain ⟨xy80, vy79, hrun, hown, hbel, hsz, hkeep⟩ := app_b_kt (x := ⟨p, q, lo, hi⟩) oT el (by omega) ey75.size
       have HRUN := Lib.hid hrun; clear hrun
       have ey78 : Below WQ.heap.size WQ vy79 := hbel _ ey75
       have xx_ := hkeep _ _ _ xx (by decide); clear xx; have xx := xx_; clear xx_
       clear oT el; have oT := hown; clear hown hkeep hbel
       refine wp_append_run (.tmp 87) (.tmp 89) 22 _ rfl HRUN.out ?_
       refine hK _ _ (fun _ => ey78) ?_
       clear hK K HRUN
       simp only [List.getElem_toArray, List.getElem_cons_succ, List.getElem_cons_zero, Act.put, List.setIfInBounds_toArray, List.set_cons_succ, List.set_cons_zero]
       obtain ⟨Ar, cr, rfl⟩ := own_slice oT
       generalize (ts ++ [(⟨p, q, lo, hi⟩ : Kt)]).length = nr at *
       (refine any_take 9 ?_ (by rfl) (by kernel_rfl) (fun _ _ _ _ _ hx => hx.elim) (.inl ⟨by rfl, ?_⟩) (by with_reducible assumption) ?_; rotate_left; (intro X hX; obtain ⟨r1, r2⟩ := Below.rules hX; clear hX; go_simp; rfl); simp only [List.getElem_toArray, List.getElem_cons_succ, List.getElem_cons_zero, Act.put, List.setIfInBounds_toArray, List.set_cons_succ, List.set_cons_zero])
       refine any_run1 (i := 11) (by kernel_rfl) (by rfl) (by kernel_rfl) ?_
       intro K hK
       have lxx := xx.lt
       have xxc0 := xx.cell 0
       have xxc1 := xx.cell 1
       simp at xxc0 xxc1
       have xxf0 := xx.frozen 0
       have xxf1 := xx.frozen 1
       go_wp2_with fail
       refine hK _ _ (fun hx => (Bool.false_ne_true (hx.symm.trans (by kernel_rfl))).elim) ?_
       clear hK K lxx xxc0 xxc1 xxf0 xxf1
       refine any_done (by kernel_rfl) (NoPanic.normal ?_)
       have hC8 : Below WQ.heap.size WQ ((vy79.setCell ⟨gxx, 0, none⟩ (.int .i64 N)).setCell ⟨gxx, 1, none⟩ (.slice Ar nr cr)) := Below.setCell (Below.setCell ey78 hqxx _) hqxx _
       have rs2 := (xx.set 0 (.int .i64 N)).set 1 (.slice Ar nr cr)
       simp at rs2
       have hne : (Value.slice Ar nr cr).ownBlock ≠ some gxx := fun hq => by
         obtain ⟨c, hc⟩ := own_block oT hq
         have hr := xx
         unfold BK at hr
         rw [hr] at hc
         injection hc with hc
         injection hc with _ hc
         exact absurd hc (by decide)
       exact ⟨_, _, _, _, _, _, _, _, _, _, gxx, nr, Ar, cr, rfl, rs2, own_far (own_far oT (p := ⟨gxx, 0, none⟩) hne (.int .i64 N)) (p := ⟨gxx, 1, none⟩) hne (.slice Ar nr cr), hC8⟩
    ·skip
     intro K hK
     have qy82 := dy1.size
     have ey81 : Below WQ.heap.size WQ (uy2.alloc (.cells #[.int .i64 p, .int .i64 q, .int .i64 lo, .int .i64 hi] 56)) := Below.alloc dy1 dy1.size _
     have hnx : Below uy2.heap.size uy2 (uy2.alloc (.cells #[.int .i64 p, .int .i64 q, .int .i64 lo, .int .i64 hi] 56)) := Below.alloc (Below.refl _ _) (Nat.le_refl _) _
     go_wp2_with fail
     replace hRr := (RS.below hRr hnx).more hnx.size
     have el : BK (uy2.alloc (.cells #[.int .i64 p, .int .i64 q, .int .i64 lo, .int .i64 hi] 56)) uy2.heap.size #[.int .i64 p, .int .i64 q, .int .i64 lo, .int .i64 hi] 56 := BK.new _ _ _
     refine hK _ _ (fun _ => ey81) ?_
     clear hK K hnx
     generalize (uy2.alloc (.cells #[.int .i64 p, .int .i64 q, .int .i64 lo, .int .i64 hi] 56)) = vy83 at *
     obtain ⟨gel, hgel⟩ : ∃ g, uy2.heap.size = g := ⟨_, rfl⟩
     have hqel : WQ.heap.size ≤ gel := by omega
     rw [hgel] at el
     try rw [hgel]
     clear hgel
     refine any_run2 (i := 2) (j := 10) (by kernel_rfl) (by rfl) (by rfl) (by rfl) (by rfl) ?_ ?_
     ·skip
      intro K hK
      have qy85 := ey81.size
      have ey84 : Below WQ.heap.size WQ (vy83.alloc (.cells #[] 56)) := Below.alloc ey81 ey81.size _
      have hnx : Below vy83.heap.size vy83 (vy83.alloc (.cells #[] 56)) := Below.alloc (Below.refl _ _) (Nat.le_refl _) _
      go_wp2_with fail
      replace el := el.below hnx el.lt
      replace hRr := (RS.below hRr hnx).more hnx.size
      have em : BK (vy83.alloc (.cells #[] 56)) vy83.heap.size #[] 56 := BK.new _ _ _
      refine hK _ _ (fun _ => ey84) ?_
      clear hK K hnx
      generalize (vy83.alloc (.cells #[] 56)) = vy86 at *
      obtain ⟨gem, hgem⟩ : ∃ g, vy83.heap.size = g := ⟨_, rfl⟩
      have hqem : WQ.heap.size ≤ gem := by omega
      rw [hgem] at em
      try rw [hgem]
      clear hgem
      refine any_run2 (i := 5) (j := 10) (by kernel_rfl) (by rfl) (by rfl) (by rfl) (by rfl) ?_ ?_
      ·skip
       intro K hK
       obtain ⟨xy89, vy88, hrun, hown, hbel, hsz, hkeep⟩ := app_all_kt (base := WQ.heap.size) em hqem hRr (by omega) ey84.size
       have HRUN := Lib.hid hrun; clear hrun
       have ey87 : Below WQ.heap.size WQ vy88 := hbel _ ey84
       have el_ := hkeep _ _ _ el (by simp); clear el; have el := el_; clear el_
       clear em hRr; have oT := hown; clear hown hkeep hbel
       refine wp_append_run (.tmp 84) (.tmp 86) 22 _ rfl HRUN.out ?_
       refine hK _ _ (fun _ => ey87) ?_
       clear hK K HRUN
       simp only [List.getElem_toArray, List.getElem_cons_succ, List.getElem_cons_zero, Act.put, List.setIfInBounds_toArray, List.set_cons_succ, List.set_cons_zero]
       refine any_run2 (i := 8) (j := 10) (by kernel_rfl) (by rfl) (by rfl) (by rfl) (by rfl) ?_ ?_
       ·skip
        intro K hK
        obtain ⟨xy92, vy91, hrun, hown, hbel, hsz, hkeep⟩ := app_b_kt (x := ⟨p, q, lo, hi⟩) oT el (by omega) ey87.size
        have HRUN := Lib.hid hrun; clear hrun
        have ey90 : Below WQ.heap.size WQ vy91 := hbel _ ey87
        clear oT el; have oT := hown; clear hown hkeep hbel
        refine wp_append_run (.tmp 87) (.tmp 89) 22 _ rfl HRUN.out ?_
        refine hK _ _ (fun _ => ey90) ?_
        clear hK K HRUN
        simp only [List.getElem_toArray, List.getElem_cons_succ, List.getElem_cons_zero, Act.put, List.setIfInBounds_toArray, List.set_cons_succ, List.set_cons_zero]
        obtain ⟨Ar, cr, rfl⟩ := own_slice oT
        generalize (ts ++ [(⟨p, q, lo, hi⟩ : Kt)]).length = nr at *
        (refine any_take 9 ?_ (by rfl) (by kernel_rfl) (fun _ _ _ _ _ hx => hx.elim) (.inl ⟨by rfl, ?_⟩) (by with_reducible assumption) ?_; rotate_left; (intro X hX; obtain ⟨r1, r2⟩ := Below.rules hX; clear hX; go_simp; rfl); simp only [List.getElem_toArray, List.getElem_cons_succ, List.getElem_cons_zero, Act.put, List.setIfInBounds_toArray, List.set_cons_succ, List.set_cons_zero])
        refine any_run1 (i := 10) (by kernel_rfl) (by rfl) (by kernel_rfl) ?_
        intro K hK
        have qy94 := ey90.size
        have ey93 : Below WQ.heap.size WQ (vy91.alloc (.cells #[.int .i64 0, .slice none 0 0] 24)) := Below.alloc ey90 ey90.size _
        have hnx : Below vy91.heap.size vy91 (vy91.alloc (.cells #[.int .i64 0, .slice none 0 0] 24)) := Below.alloc (Below.refl _ _) (Nat.le_refl _) _
        go_wp2_with fail
        replace oT := OwnT.below oT hnx
        have xx : BK (vy91.alloc (.cells #[.int .i64 0, .slice none 0 0] 24)) vy91.heap.size #[.int .i64 0, .slice none 0 0] 24 := BK.new _ _ _
        refine hK _ _ (fun _ => ey93) ?_
        clear hK K hnx
        generalize (vy91.alloc (.cells #[.int .i64 0, .slice none 0 0] 24)) = vy95 at *
        obtain ⟨gxx, hgxx⟩ : ∃ g, vy91.heap.size = g := ⟨_, rfl⟩
        have hqxx : WQ.heap.size ≤ gxx := by omega
        rw [hgxx] at xx
        try rw [hgxx]
        clear hgxx
        refine any_run1 (i := 11) (by kernel_rfl) (by rfl) (by kernel_rfl) ?_
        intro K hK
        have lxx := xx.lt
        have xxc0 := xx.cell 0
        have xxc1 := xx.cell 1
        simp at xxc0 xxc1
        have xxf0 := xx.frozen 0
        have xxf1 := xx.frozen 1
        go_wp2_with fail
        refine hK _ _ (fun hx => (Bool.false_ne_true (hx.symm.trans (by kernel_rfl))).elim) ?_
        clear hK K lxx xxc0 xxc1 xxf0 xxf1
        refine any_done (by kernel_rfl) (NoPanic.normal ?_)
        have hC8 : Below WQ.heap.size WQ ((vy95.setCell ⟨gxx, 0, none⟩ (.int .i64 N)).setCell ⟨gxx, 1, none⟩ (.slice Ar nr cr)) := Below.setCell (Below.setCell ey93 hqxx _) hqxx _
        have rs2 := (xx.set 0 (.int .i64 N)).set 1 (.slice Ar nr cr)
        simp at rs2
        have hne : (Value.slice Ar nr cr).ownBlock ≠ some gxx := fun hq => by
          obtain ⟨c, hc⟩ := own_block oT hq
          have hr := xx
          unfold BK at hr
          rw [hr] at hc
          injection hc with hc
          injection hc with _ hc
          exact absurd hc (by decide)
        exact ⟨_, _, _, _, _, _, _, _, _, _, gxx, nr, Ar, cr, rfl, rs2, own_far (own_far oT (p := ⟨gxx, 0, none⟩) hne (.int .i64 N)) (p := ⟨gxx, 1, none⟩) hne (.slice Ar nr cr), hC8⟩
       ·skip
        intro K hK
        have qy97 := ey87.size
        have ey96 : Below WQ.heap.size WQ (vy88.alloc (.cells #[.int .i64 0, .slice none 0 0] 24)) := Below.alloc ey87 ey87.size _
        have hnx : Below vy88.heap.size vy88 (vy88.alloc (.cells #[.int .i64 0, .slice none 0 0] 24)) := Below.alloc (Below.refl _ _) (Nat.le_refl _) _
        go_wp2_with fail
        replace el := el.below hnx el.lt
        replace oT := OwnT.below oT hnx
        have xx : BK (vy88.alloc (.cells #[.int .i64 0, .slice none 0 0] 24)) vy88.heap.size #[.int .i64 0, .slice none 0 0] 24 := BK.new _ _ _
        refine hK _ _ (fun _ => ey96) ?_
        clear hK K hnx
        generalize (vy88.alloc (.cells #[.int .i64 0, .slice none 0 0] 24)) = vy98 at *
        obtain ⟨gxx, hgxx⟩ : ∃ g, vy88.heap.size = g := ⟨_, rfl⟩
        have hqxx : WQ.heap.size ≤ gxx := by omega
        rw [hgxx] at xx
        try rw [hgxx]
        clear hgxx
        refine any_run1 (i := 8) (by kernel_rfl) (by rfl) (by kernel_rfl) ?_
        intro K hK
        obtain ⟨xy101, vy100, hrun, hown, hbel, hsz, hkeep⟩ := app_b_kt (x := ⟨p, q, lo, hi⟩) oT el (by omega) ey96.size
        have HRUN := Lib.hid hrun; clear hrun
        have ey99 : Below WQ.heap.size WQ vy100 := hbel _ ey96
        have xx_ := hkeep _ _ _ xx (by decide); clear xx; have xx := xx_; clear xx_
        clear oT el; have oT := hown; clear hown hkeep hbel
        refine wp_append_run (.tmp 87) (.tmp 89) 22 _ rfl HRUN.out ?_
        refine hK _ _ (fun _ => ey99) ?_
        clear hK K HRUN
        simp only [List.getElem_toArray, List.getElem_cons_succ, List.getElem_cons_zero, Act.put, List.setIfInBounds_toArray, List.set_cons_succ, List.set_cons_zero]
        obtain ⟨Ar, cr, rfl⟩ := own_slice oT
        generalize (ts ++ [(⟨p, q, lo, hi⟩ : Kt)]).length = nr at *
        (refine any_take 9 ?_ (by rfl) (by kernel_rfl) (fun _ _ _ _ _ hx => hx.elim) (.inl ⟨by rfl, ?_⟩) (by with_reducible assumption) ?_; rotate_left; (intro X hX; obtain ⟨r1, r2⟩ := Below.rules hX; clear hX; go_simp; rfl); simp only [List.getElem_toArray, List.getElem_cons_succ, List.getElem_cons_zero, Act.put, List.setIfInBounds_toArray, List.set_cons_succ, List.set_cons_zero])
        refine any_run1 (i := 11) (by kernel_rfl) (by rfl) (by kernel_rfl) ?_
        intro K hK
        have lxx := xx.lt
        have xxc0 := xx.cell 0
        have xxc1 := xx.cell 1
        simp at xxc0 xxc1
        have xxf0 := xx.frozen 0
        have xxf1 := xx.frozen 1
        go_wp2_with fail
        refine hK _ _ (fun hx => (Bool.false_ne_true (hx.symm.trans (by kernel_rfl))).elim) ?_
        clear hK K lxx xxc0 xxc1 xxf0 xxf1
        refine any_done (by kernel_rfl) (NoPanic.normal ?_)
        have hC8 : Below WQ.heap.size WQ ((vy100.setCell ⟨gxx, 0, none⟩ (.int .i64 N)).setCell ⟨gxx, 1, none⟩ (.slice Ar nr cr)) := Below.setCell (Below.setCell ey99 hqxx _) hqxx _
        have rs2 := (xx.set 0 (.int .i64 N)).set 1 (.slice Ar nr cr)
        simp at rs2
        have hne : (Value.slice Ar nr cr).ownBlock ≠ some gxx := fun hq => by
          obtain ⟨c, hc⟩ := own_block oT hq
          have hr := xx
          unfold BK at hr
          rw [hr] at hc
          injection hc with hc
          injection hc with _ hc
          exact absurd hc (by decide)
        exact ⟨_, _, _, _, _, _, _, _, _, _, gxx, nr, Ar, cr, rfl, rs2, own_far (own_far oT (p := ⟨gxx, 0, none⟩) hne (.int .i64 N)) (p := ⟨gxx, 1, none⟩) hne (.slice Ar nr cr), hC8⟩
      ·skip
       intro K hK
       have qy103 := ey84.size
       have ey102 : Below WQ.heap.size WQ (vy86.alloc (.cells #[.int .i64 0, .slice none 0 0] 24)) := Below.alloc ey84 ey84.size _
       have hnx : Below vy86.heap.size vy86 (vy86.alloc (.cells #[.int .i64 0, .slice none 0 0] 24)) := Below.alloc (Below.refl _ _) (Nat.le_refl _) _
       go_wp2_with fail
       replace el := el.below hnx el.lt
       replace em := em.below hnx em.lt
       replace hRr := (RS.below hRr hnx).more hnx.size
       have xx : BK (vy86.alloc (.cells #[.int .i64 0, .slice none 0 0] 24)) vy86.heap.size #[.int .i64 0, .slice none 0 0] 24 := BK.new _ _ _
       refine hK _ _ (fun _ => ey102) ?_
       clear hK K hnx
       generalize (vy86.alloc (.cells #[.int .i64 0, .slice none 0 0] 24)) = vy104 at *
       obtain ⟨gxx, hgxx⟩ : ∃ g, vy86.heap.size = g := ⟨_, rfl⟩
       have hqxx : WQ.heap.size ≤ gxx := by omega
       rw [hgxx] at xx
       try rw [hgxx]
       clear hgxx
       refine any_run1 (i := 5) (by kernel_rfl) (by rfl) (by kernel_rfl) ?_
       intro K hK
       obtain ⟨xy107, vy106, hrun, hown, hbel, hsz, hkeep⟩ := app_all_kt (base := WQ.heap.size) em hqem hRr (by omega) ey102.size
       have HRUN := Lib.hid hrun; clear hrun
       have ey105 : Below WQ.heap.size WQ vy106 := hbel _ ey102
       have el_ := hkeep _ _ _ el (by simp); clear el; have el := el_; clear el_
       have xx_ := hkeep _ _ _ xx (by simp); clear xx; have xx := xx_; clear xx_
       clear em hRr; have oT := hown; clear hown hkeep hbel
       refine wp_append_run (.tmp 84) (.tmp 86) 22 _ rfl HRUN.out ?_
       refine hK _ _ (fun _ => ey105) ?_
       clear hK K HRUN
       simp only [List.getElem_toArray, List.getElem_cons_succ, List.getElem_cons_zero, Act.put, List.setIfInBounds_toArray, List.set_cons_succ, List.set_cons_zero]
       refine any_run1 (i := 8) (by kernel_rfl) (by rfl) (by kernel_rfl) ?_
       intro K hK
       obtain ⟨xy110, vy109, hrun, hown, hbel, hsz, hkeep⟩ := app_b_kt (x := ⟨p, q, lo, hi⟩) oT el (by omega) ey105.size
       have HRUN := Lib.hid hrun; clear hrun
       have ey108 : Below WQ.heap.size WQ vy109 := hbel _ ey105
       have xx_ := hkeep _ _ _ xx (by decide); clear xx; have xx := xx_; clear xx_
       clear oT el; have oT := hown; clear hown hkeep hbel
       refine wp_append_run (.tmp 87) (.tmp 89) 22 _ rfl HRUN.out ?_
       refine hK _ _ (fun _ => ey108) ?_
       clear hK K HRUN
       simp only [List.getElem_toArray, List.getElem_cons_succ, List.getElem_cons_zero, Act.put, List.setIfInBounds_toArray, List.set_cons_succ, List.set_cons_zero]
       obtain ⟨Ar, cr, rfl⟩ := own_slice oT
       generalize (ts ++ [(⟨p, q, lo, hi⟩ : Kt)]).length = nr at *
       (refine any_take 9 ?_ (by rfl) (by kernel_rfl) (fun _ _ _ _ _ hx => hx.elim) (.inl ⟨by rfl, ?_⟩) (by with_reducible assumption) ?_; rotate_left; (intro X hX; obtain ⟨r1, r2⟩ := Below.rules hX; clear hX; go_simp; rfl); simp only [List.getElem_toArray, List.getElem_cons_succ, List.getElem_cons_zero, Act.put, List.setIfInBounds_toArray, List.set_cons_succ, List.set_cons_zero])
       refine any_run1 (i := 11) (by kernel_rfl) (by rfl) (by kernel_rfl) ?_
       intro K hK
       have lxx := xx.lt
       have xxc0 := xx.cell 0
       have xxc1 := xx.cell 1
       simp at xxc0 xxc1
       have xxf0 := xx.frozen 0
       have xxf1 := xx.frozen 1
       go_wp2_with fail
       refine hK _ _ (fun hx => (Bool.false_ne_true (hx.symm.trans (by kernel_rfl))).elim) ?_
       clear hK K lxx xxc0 xxc1 xxf0 xxf1
       refine any_done (by kernel_rfl) (NoPanic.normal ?_)
       have hC8 : Below WQ.heap.size WQ ((vy109.setCell ⟨gxx, 0, none⟩ (.int .i64 N)).setCell ⟨gxx, 1, none⟩ (.slice Ar nr cr)) := Below.setCell (Below.setCell ey108 hqxx _) hqxx _
       have rs2 := (xx.set 0 (.int .i64 N)).set 1 (.slice Ar nr cr)
       simp at rs2
       have hne : (Value.slice Ar nr cr).ownBlock ≠ some gxx := fun hq => by
         obtain ⟨c, hc⟩ := own_block oT hq
         have hr := xx
         unfold BK at hr
         rw [hr] at hc
         injection hc with hc
         injection hc with _ hc
         exact absurd hc (by decide)
       exact ⟨_, _, _, _, _, _, _, _, _, _, gxx, nr, Ar, cr, rfl, rs2, own_far (own_far oT (p := ⟨gxx, 0, none⟩) hne (.int .i64 N)) (p := ⟨gxx, 1, none⟩) hne (.slice Ar nr cr), hC8⟩
     ·skip
      intro K hK
      have qy112 := ey81.size
      have ey111 : Below WQ.heap.size WQ (vy83.alloc (.cells #[.int .i64 0, .slice none 0 0] 24)) := Below.alloc ey81 ey81.size _
      have hnx : Below vy83.heap.size vy83 (vy83.alloc (.cells #[.int .i64 0, .slice none 0 0] 24)) := Below.alloc (Below.refl _ _) (Nat.le_refl _) _
      go_wp2_with fail
      replace el := el.below hnx el.lt
      replace hRr := (RS.below hRr hnx).more hnx.size
      have xx : BK (vy83.alloc (.cells #[.int .i64 0, .slice none 0 0] 24)) vy83.heap.size #[.int .i64 0, .slice none 0 0] 24 := BK.new _ _ _
      refine hK _ _ (fun _ => ey111) ?_
      clear hK K hnx
      generalize (vy83.alloc (.cells #[.int .i64 0, .slice none 0 0] 24)) = vy113 at *
      obtain ⟨gxx, hgxx⟩ : ∃ g, vy83.heap.size = g := ⟨_, rfl⟩
      have hqxx : WQ.heap.size ≤ gxx := by omega
      rw [hgxx] at xx
      try rw [hgxx]
      clear hgxx
      refine any_run1 (i := 2) (by kernel_rfl) (by rfl) (by kernel_rfl) ?_
      intro K hK
      have qy115 := ey111.size
      have ey114 : Below WQ.heap.size WQ (vy113.alloc (.cells #[] 56)) := Below.alloc ey111 ey111.size _
      have hnx : Below vy113.heap.size vy113 (vy113.alloc (.cells #[] 56)) := Below.alloc (Below.refl _ _) (Nat.le_refl _) _
      go_wp2_with fail
      replace el := el.below hnx el.lt
      replace xx := xx.below hnx xx.lt
      replace hRr := (RS.below hRr hnx).more hnx.size
      have em : BK (vy113.alloc (.cells #[] 56)) vy113.heap.size #[] 56 := BK.new _ _ _
      refine hK _ _ (fun _ => ey114) ?_
      clear hK K hnx
      generalize (vy113.alloc (.cells #[] 56)) = vy116 at *
      obtain ⟨gem, hgem⟩ : ∃ g, vy113.heap.size = g := ⟨_, rfl⟩
      have hqem : WQ.heap.size ≤ gem := by omega
      rw [hgem] at em
      try rw [hgem]
      clear hgem
      refine any_run1 (i := 5) (by kernel_rfl) (by rfl) (by kernel_rfl) ?_
      intro K hK
      obtain ⟨xy119, vy118, hrun, hown, hbel, hsz, hkeep⟩ := app_all_kt (base := WQ.heap.size) em hqem hRr (by omega) ey114.size
      have HRUN := Lib.hid hrun; clear hrun
      have ey117 : Below WQ.heap.size WQ vy118 := hbel _ ey114
      have el_ := hkeep _ _ _ el (by simp); clear el; have el := el_; clear el_
      have xx_ := hkeep _ _ _ xx (by simp); clear xx; have xx := xx_; clear xx_
      clear em hRr; have oT := hown; clear hown hkeep hbel
      refine wp_append_run (.tmp 84) (.tmp 86) 22 _ rfl HRUN.out ?_
      refine hK _ _ (fun _ => ey117) ?_
      clear hK K HRUN
      simp only [List.getElem_toArray, List.getElem_cons_succ, List.getElem_cons_zero, Act.put, List.setIfInBounds_toArray, List.set_cons_succ, List.set_cons_zero]
      refine any_run1 (i := 8) (by kernel_rfl) (by rfl) (by kernel_rfl) ?_
      intro K hK
      obtain ⟨xy122, vy121, hrun, hown, hbel, hsz, hkeep⟩ := app_b_kt (x := ⟨p, q, lo, hi⟩) oT el (by omega) ey117.size
      have HRUN := Lib.hid hrun; clear hrun
      have ey120 : Below WQ.heap.size WQ vy121 := hbel _ ey117
      have xx_ := hkeep _ _ _ xx (by decide); clear xx; have xx := xx_; clear xx_
      clear oT el; have oT := hown; clear hown hkeep hbel
      refine wp_append_run (.tmp 87) (.tmp 89) 22 _ rfl HRUN.out ?_
      refine hK _ _ (fun _ => ey120) ?_
      clear hK K HRUN
      simp only [List.getElem_toArray, List.getElem_cons_succ, List.getElem_cons_zero, Act.put, List.setIfInBounds_toArray, List.set_cons_succ, List.set_cons_zero]
      obtain ⟨Ar, cr, rfl⟩ := own_slice oT
      generalize (ts ++ [(⟨p, q, lo, hi⟩ : Kt)]).length = nr at *
      (refine any_take 9 ?_ (by rfl) (by kernel_rfl) (fun _ _ _ _ _ hx => hx.elim) (.inl ⟨by rfl, ?_⟩) (by with_reducible assumption) ?_; rotate_left; (intro X hX; obtain ⟨r1, r2⟩ := Below.rules hX; clear hX; go_simp; rfl); simp only [List.getElem_toArray, List.getElem_cons_succ, List.getElem_cons_zero, Act.put, List.setIfInBounds_toArray, List.set_cons_succ, List.set_cons_zero])
      refine any_run1 (i := 11) (by kernel_rfl) (by rfl) (by kernel_rfl) ?_
      intro K hK
      have lxx := xx.lt
      have xxc0 := xx.cell 0
      have xxc1 := xx.cell 1
      simp at xxc0 xxc1
      have xxf0 := xx.frozen 0
      have xxf1 := xx.frozen 1
      go_wp2_with fail
      refine hK _ _ (fun hx => (Bool.false_ne_true (hx.symm.trans (by kernel_rfl))).elim) ?_
      clear hK K lxx xxc0 xxc1 xxf0 xxf1
      refine any_done (by kernel_rfl) (NoPanic.normal ?_)
      have hC8 : Below WQ.heap.size WQ ((vy121.setCell ⟨gxx, 0, none⟩ (.int .i64 N)).setCell ⟨gxx, 1, none⟩ (.slice Ar nr cr)) := Below.setCell (Below.setCell ey120 hqxx _) hqxx _
      have rs2 := (xx.set 0 (.int .i64 N)).set 1 (.slice Ar nr cr)
      simp at rs2
      have hne : (Value.slice Ar nr cr).ownBlock ≠ some gxx := fun hq => by
        obtain ⟨c, hc⟩ := own_block oT hq
        have hr := xx
        unfold BK at hr
        rw [hr] at hc
        injection hc with hc
        injection hc with _ hc
        exact absurd hc (by decide)
      exact ⟨_, _, _, _, _, _, _, _, _, _, gxx, nr, Ar, cr, rfl, rs2, own_far (own_far oT (p := ⟨gxx, 0, none⟩) hne (.int .i64 N)) (p := ⟨gxx, 1, none⟩) hne (.slice Ar nr cr), hC8⟩
    ·skip
     intro K hK
     have qy124 := dy1.size
     have ey123 : Below WQ.heap.size WQ (uy2.alloc (.cells #[.int .i64 0, .slice none 0 0] 24)) := Below.alloc dy1 dy1.size _
     have hnx : Below uy2.heap.size uy2 (uy2.alloc (.cells #[.int .i64 0, .slice none 0 0] 24)) := Below.alloc (Below.refl _ _) (Nat.le_refl _) _
     go_wp2_with fail
     replace hRr := (RS.below hRr hnx).more hnx.size
     have xx : BK (uy2.alloc (.cells #[.int .i64 0, .slice none 0 0] 24)) uy2.heap.size #[.int .i64 0, .slice none 0 0] 24 := BK.new _ _ _
     refine hK _ _ (fun _ => ey123) ?_
     clear hK K hnx
     generalize (uy2.alloc (.cells #[.int .i64 0, .slice none 0 0] 24)) = vy125 at *
     obtain ⟨gxx, hgxx⟩ : ∃ g, uy2.heap.size = g := ⟨_, rfl⟩
     have hqxx : WQ.heap.size ≤ gxx := by omega
     rw [hgxx] at xx
     try rw [hgxx]
     clear hgxx
     refine any_run2 (i := 2) (j := 7) (by kernel_rfl) (by rfl) (by rfl) (by rfl) (by rfl) ?_ ?_
     ·skip
      intro K hK
      have qy127 := ey123.size
      have ey126 : Below WQ.heap.size WQ (vy125.alloc (.cells #[] 56)) := Below.alloc ey123 ey123.size _
      have hnx : Below vy125.heap.size vy125 (vy125.alloc (.cells #[] 56)) := Below.alloc (Below.refl _ _) (Nat.le_refl _) _
      go_wp2_with fail
      replace xx := xx.below hnx xx.lt
      replace hRr := (RS.below hRr hnx).more hnx.size
      have em : BK (vy125.alloc (.cells #[] 56)) vy125.heap.size #[] 56 := BK.new _ _ _
      refine hK _ _ (fun _ => ey126) ?_
      clear hK K hnx
      generalize (vy125.alloc (.cells #[] 56)) = vy128 at *
      obtain ⟨gem, hgem⟩ : ∃ g, vy125.heap.size = g := ⟨_, rfl⟩
      have hqem : WQ.heap.size ≤ gem := by omega
      rw [hgem] at em
      try rw [hgem]
      clear hgem
      refine any_run2 (i := 5) (j := 7) (by kernel_rfl) (by rfl) (by rfl) (by rfl) (by rfl) ?_ ?_
      ·skip
       intro K hK
       obtain ⟨xy131, vy130, hrun, hown, hbel, hsz, hkeep⟩ := app_all_kt (base := WQ.heap.size) em hqem hRr (by omega) ey126.size
       have HRUN := Lib.hid hrun; clear hrun
       have ey129 : Below WQ.heap.size WQ vy130 := hbel _ ey126
       have xx_ := hkeep _ _ _ xx (by simp); clear xx; have xx := xx_; clear xx_
       clear em hRr; have oT := hown; clear hown hkeep hbel
       refine wp_append_run (.tmp 84) (.tmp 86) 22 _ rfl HRUN.out ?_
       refine hK _ _ (fun _ => ey129) ?_
       clear hK K HRUN
       simp only [List.getElem_toArray, List.getElem_cons_succ, List.getElem_cons_zero, Act.put, List.setIfInBounds_toArray, List.set_cons_succ, List.set_cons_zero]
       refine any_run1 (i := 7) (by kernel_rfl) (by rfl) (by kernel_rfl) ?_
       intro K hK
       have qy133 := ey129.size
       have ey132 : Below WQ.heap.size WQ (vy130.alloc (.cells #[.int .i64 p, .int .i64 q, .int .i64 lo, .int .i64 hi] 56)) := Below.alloc ey129 ey129.size _
       have hnx : Below vy130.heap.size vy130 (vy130.alloc (.cells #[.int .i64 p, .int .i64 q, .int .i64 lo, .int .i64 hi] 56)) := Below.alloc (Below.refl _ _) (Nat.le_refl _) _
       go_wp2_with fail
       replace xx := xx.below hnx xx.lt
       replace oT := OwnT.below oT hnx
       have el : BK (vy130.alloc (.cells #[.int .i64 p, .int .i64 q, .int .i64 lo, .int .i64 hi] 56)) vy130.heap.size #[.int .i64 p, .int .i64 q, .int .i64 lo, .int .i64 hi] 56 := BK.new _ _ _
       refine hK _ _ (fun _ => ey132) ?_
       clear hK K hnx
       generalize (vy130.alloc (.cells #[.int .i64 p, .int .i64 q, .int .i64 lo, .int .i64 hi] 56)) = vy134 at *
       obtain ⟨gel, hgel⟩ : ∃ g, vy130.heap.size = g := ⟨_, rfl⟩
       have hqel : WQ.heap.size ≤ gel := by omega
       rw [hgel] at el
       try rw [hgel]
       clear hgel
       refine any_run1 (i := 8) (by kernel_rfl) (by rfl) (by kernel_rfl) ?_
       intro K hK
       obtain ⟨xy137, vy136, hrun, hown, hbel, hsz, hkeep⟩ := app_b_kt (x := ⟨p, q, lo, hi⟩) oT el (by omega) ey132.size
       have HRUN := Lib.hid hrun; clear hrun
       have ey135 : Below WQ.heap.size WQ vy136 := hbel _ ey132
       have xx_ := hkeep _ _ _ xx (by decide); clear xx; have xx := xx_; clear xx_
       clear oT el; have oT := hown; clear hown hkeep hbel
       refine wp_append_run (.tmp 87) (.tmp 89) 22 _ rfl HRUN.out ?_
       refine hK _ _ (fun _ => ey135) ?_
       clear hK K HRUN
       simp only [List.getElem_toArray, List.getElem_cons_succ, List.getElem_cons_zero, Act.put, List.setIfInBounds_toArray, List.set_cons_succ, List.set_cons_zero]
       obtain ⟨Ar, cr, rfl⟩ := own_slice oT
       generalize (ts ++ [(⟨p, q, lo, hi⟩ : Kt)]).length = nr at *
       (refine any_take 9 ?_ (by rfl) (by kernel_rfl) (fun _ _ _ _ _ hx => hx.elim) (.inl ⟨by rfl, ?_⟩) (by with_reducible assumption) ?_; rotate_left; (intro X hX; obtain ⟨r1, r2⟩ := Below.rules hX; clear hX; go_simp; rfl); simp only [List.getElem_toArray, List.getElem_cons_succ, List.getElem_cons_zero, Act.put, List.setIfInBounds_toArray, List.set_cons_succ, List.set_cons_zero])
       refine any_run1 (i := 11) (by kernel_rfl) (by rfl) (by kernel_rfl) ?_
       intro K hK
       have lxx := xx.lt
       have xxc0 := xx.cell 0
       have xxc1 := xx.cell 1
       simp at xxc0 xxc1
       have xxf0 := xx.frozen 0
       have xxf1 := xx.frozen 1
       go_wp2_with fail
       refine hK _ _ (fun hx => (Bool.false_ne_true (hx.symm.trans (by kernel_rfl))).elim) ?_
       clear hK K lxx xxc0 xxc1 xxf0 xxf1
       refine any_done (by kernel_rfl) (NoPanic.normal ?_)
       have hC8 : Below WQ.heap.size WQ ((vy136.setCell ⟨gxx, 0, none⟩ (.int .i64 N)).setCell ⟨gxx, 1, none⟩ (.slice Ar nr cr)) := Below.setCell (Below.setCell ey135 hqxx _) hqxx _
       have rs2 := (xx.set 0 (.int .i64 N)).set 1 (.slice Ar nr cr)
       simp at rs2
       have hne : (Value.slice Ar nr cr).ownBlock ≠ some gxx := fun hq => by
         obtain ⟨c, hc⟩ := own_block oT hq
         have hr := xx
         unfold BK at hr
         rw [hr] at hc
         injection hc with hc
         injection hc with _ hc
         exact absurd hc (by decide)
       exact ⟨_, _, _, _, _, _, _, _, _, _, gxx, nr, Ar, cr, rfl, rs2, own_far (own_far oT (p := ⟨gxx, 0, none⟩) hne (.int .i64 N)) (p := ⟨gxx, 1, none⟩) hne (.slice Ar nr cr), hC8⟩
      ·skip
       intro K hK
       have qy139 := ey126.size
       have ey138 : Below WQ.heap.size WQ (vy128.alloc (.cells #[.int .i64 p, .int .i64 q, .int .i64 lo, .int .i64 hi] 56)) := Below.alloc ey126 ey126.size _
       have hnx : Below vy128.heap.size vy128 (vy128.alloc (.cells #[.int .i64 p, .int .i64 q, .int .i64 lo, .int .i64 hi] 56)) := Below.alloc (Below.refl _ _) (Nat.le_refl _) _
       go_wp2_with fail
       replace xx := xx.below hnx xx.lt
       replace em := em.below hnx em.lt
       replace hRr := (RS.below hRr hnx).more hnx.size
       have el : BK (vy128.alloc (.cells #[.int .i64 p, .int .i64 q, .int .i64 lo, .int .i64 hi] 56)) vy128.heap.size #[.int .i64 p, .int .i64 q, .int .i64 lo, .int .i64 hi] 56 := BK.new _ _ _
       refine hK _ _ (fun _ => ey138) ?_
       clear hK K hnx
       generalize (vy128.alloc (.cells #[.int .i64 p, .int .i64 q, .int .i64 lo, .int .i64 hi] 56)) = vy140 at *
       obtain ⟨gel, hgel⟩ : ∃ g, vy128.heap.size = g := ⟨_, rfl⟩
       have hqel : WQ.heap.size ≤ gel := by omega
       rw [hgel] at el
       try rw [hgel]
       clear hgel
       refine any_run1 (i := 5) (by kernel_rfl) (by rfl) (by kernel_rfl) ?_
       intro K hK
       obtain ⟨xy143, vy142, hrun, hown, hbel, hsz, hkeep⟩ := app_all_kt (base := WQ.heap.size) em hqem hRr (by omega) ey138.size
       have HRUN := Lib.hid hrun; clear hrun
       have ey141 : Below WQ.heap.size WQ vy142 := hbel _ ey138
       have xx_ := hkeep _ _ _ xx (by simp); clear xx; have xx := xx_; clear xx_
       have el_ := hkeep _ _ _ el (by simp); clear el; have el := el_; clear el_
       clear em hRr; have oT := hown; clear hown hkeep hbel
       refine wp_append_run (.tmp 84) (.tmp 86) 22 _ rfl HRUN.out ?_
       refine hK _ _ (fun _ => ey141) ?_
       clear hK K HRUN
       simp only [List.getElem_toArray, List.getElem_cons_succ, List.getElem_cons_zero, Act.put, List.setIfInBounds_toArray, List.set_cons_succ, List.set_cons_zero]
       refine any_run1 (i := 8) (by kernel_rfl) (by rfl) (by kernel_rfl) ?_
       intro K hK
       obtain ⟨xy146, vy145, hrun, hown, hbel, hsz, hkeep⟩ := app_b_kt (x := ⟨p, q, lo, hi⟩) oT el (by omega) ey141.size
       have HRUN := Lib.hid hrun; clear hrun
       have ey144 : Below WQ.heap.size WQ vy145 := hbel _ ey141
       have xx_ := hkeep _ _ _ xx (by decide); clear xx; have xx := xx_; clear xx_
       clear oT el; have oT := hown; clear hown hkeep hbel
       refine wp_append_run (.tmp 87) (.tmp 89) 22 _ rfl HRUN.out ?_
       refine hK _ _ (fun _ => ey144) ?_
       clear hK K HRUN
       simp only [List.getElem_toArray, List.getElem_cons_succ, List.getElem_cons_zero, Act.put, List.setIfInBounds_toArray, List.set_cons_succ, List.set_cons_zero]
       obtain ⟨Ar, cr, rfl⟩ := own_slice oT
       generalize (ts ++ [(⟨p, q, lo, hi⟩ : Kt)]).length = nr at *
       (refine any_take 9 ?_ (by rfl) (by kernel_rfl) (fun _ _ _ _ _ hx => hx.elim) (.inl ⟨by rfl, ?_⟩) (by with_reducible assumption) ?_; rotate_left; (intro X hX; obtain ⟨r1, r2⟩ := Below.rules hX; clear hX; go_simp; rfl); simp only [List.getElem_toArray, List.getElem_cons_succ, List.getElem_cons_zero, Act.put, List.setIfInBounds_toArray, List.set_cons_succ, List.set_cons_zero])
       refine any_run1 (i := 11) (by kernel_rfl) (by rfl) (by kernel_rfl) ?_
       intro K hK
       have lxx := xx.lt
       have xxc0 := xx.cell 0
       have xxc1 := xx.cell 1
       simp at xxc0 xxc1
       have xxf0 := xx.frozen 0
       have xxf1 := xx.frozen 1
       go_wp2_with fail
       refine hK _ _ (fun hx => (Bool.false_ne_true (hx.symm.trans (by kernel_rfl))).elim) ?_
       clear hK K lxx xxc0 xxc1 xxf0 xxf1
       refine any_done (by kernel_rfl) (NoPanic.normal ?_)
       have hC8 : Below WQ.heap.size WQ ((vy145.setCell ⟨gxx, 0, none⟩ (.int .i64 N)).setCell ⟨gxx, 1, none⟩ (.slice Ar nr cr)) := Below.setCell (Below.setCell ey144 hqxx _) hqxx _
       have rs2 := (xx.set 0 (.int .i64 N)).set 1 (.slice Ar nr cr)
       simp at rs2
       have hne : (Value.slice Ar nr cr).ownBlock ≠ some gxx := fun hq => by
         obtain ⟨c, hc⟩ := own_block oT hq
         have hr := xx
         unfold BK at hr
         rw [hr] at hc
         injection hc with hc
         injection hc with _ hc
         exact absurd hc (by decide)
       exact ⟨_, _, _, _, _, _, _, _, _, _, gxx, nr, Ar, cr, rfl, rs2, own_far (own_far oT (p := ⟨gxx, 0, none⟩) hne (.int .i64 N)) (p := ⟨gxx, 1, none⟩) hne (.slice Ar nr cr), hC8⟩
     ·skip
      intro K hK
      have qy148 := ey123.size
      have ey147 : Below WQ.heap.size WQ (vy125.alloc (.cells #[.int .i64 p, .int .i64 q, .int .i64 lo, .int .i64 hi] 56)) := Below.alloc ey123 ey123.size _
      have hnx : Below vy125.heap.size vy125 (vy125.alloc (.cells #[.int .i64 p, .int .i64 q, .int .i64 lo, .int .i64 hi] 56)) := Below.alloc (Below.refl _ _) (Nat.le_refl _) _
      go_wp2_with fail
      replace xx := xx.below hnx xx.lt
      replace hRr := (RS.below hRr hnx).more hnx.size
      have el : BK (vy125.alloc (.cells #[.int .i64 p, .int .i64 q, .int .i64 lo, .int .i64 hi] 56)) vy125.heap.size #[.int .i64 p, .int .i64 q, .int .i64 lo, .int .i64 hi] 56 := BK.new _ _ _
      refine hK _ _ (fun _ => ey147) ?_
      clear hK K hnx
      generalize (vy125.alloc (.cells #[.int .i64 p, .int .i64 q, .int .i64 lo, .int .i64 hi] 56)) = vy149 at *
      obtain ⟨gel, hgel⟩ : ∃ g, vy125.heap.size = g := ⟨_, rfl⟩
      have hqel : WQ.heap.size ≤ gel := by omega
      rw [hgel] at el
      try rw [hgel]
      clear hgel
      refine any_run1 (i := 2) (by kernel_rfl) (by rfl) (by kernel_rfl) ?_
      intro K hK
      have qy151 := ey147.size
      have ey150 : Below WQ.heap.size WQ (vy149.alloc (.cells #[] 56)) := Below.alloc ey147 ey147.size _
      have hnx : Below vy149.heap.size vy149 (vy149.alloc (.cells #[] 56)) := Below.alloc (Below.refl _ _) (Nat.le_refl _) _
      go_wp2_with fail
      replace xx := xx.below hnx xx.lt
      replace el := el.below hnx el.lt
      replace hRr := (RS.below hRr hnx).more hnx.size
      have em : BK (vy149.alloc (.cells #[] 56)) vy149.heap.size #[] 56 := BK.new _ _ _
      refine hK _ _ (fun _ => ey150) ?_
      clear hK K hnx
      generalize (vy149.alloc (.cells #[] 56)) = vy152 at *
      obtain ⟨gem, hgem⟩ : ∃ g, vy149.heap.size = g := ⟨_, rfl⟩
      have hqem : WQ.heap.size ≤ gem := by omega
      rw [hgem] at em
      try rw [hgem]
      clear hgem
      refine any_run1 (i := 5) (by kernel_rfl) (by rfl) (by kernel_rfl) ?_
      intro K hK
      obtain ⟨xy155, vy154, hrun, hown, hbel, hsz, hkeep⟩ := app_all_kt (base := WQ.heap.size) em hqem hRr (by omega) ey150.size
      have HRUN := Lib.hid hrun; clear hrun
      have ey153 : Below WQ.heap.size WQ vy154 := hbel _ ey150
      have xx_ := hkeep _ _ _ xx (by simp); clear xx; have xx := xx_; clear xx_
      have el_ := hkeep _ _ _ el (by simp); clear el; have el := el_; clear el_
      clear em hRr; have oT := hown; clear hown hkeep hbel
      refine wp_append_run (.tmp 84) (.tmp 86) 22 _ rfl HRUN.out ?_
      refine hK _ _ (fun _ => ey153) ?_
      clear hK K HRUN
      simp only [List.getElem_toArray, List.getElem_cons_succ, List.getElem_cons_zero, Act.put, List.setIfInBounds_toArray, List.set_cons_succ, List.set_cons_zero]
      refine any_run1 (i := 8) (by kernel_rfl) (by rfl) (by kernel_rfl) ?_
      intro K hK
      obtain ⟨xy158, vy157, hrun, hown, hbel, hsz, hkeep⟩ := app_b_kt (x := ⟨p, q, lo, hi⟩) oT el (by omega) ey153.size
      have HRUN := Lib.hid hrun; clear hrun
      have ey156 : Below WQ.heap.size WQ vy157 := hbel _ ey153
      have xx_ := hkeep _ _ _ xx (by decide); clear xx; have xx := xx_; clear xx_
      clear oT el; have oT := hown; clear hown hkeep hbel
      refine wp_append_run (.tmp 87) (.tmp 89) 22 _ rfl HRUN.out ?_
      refine hK _ _ (fun _ => ey156) ?_
      clear hK K HRUN
      simp only [List.getElem_toArray, List.getElem_cons_succ, List.getElem_cons_zero, Act.put, List.setIfInBounds_toArray, List.set_cons_succ, List.set_cons_zero]
      obtain ⟨Ar, cr, rfl⟩ := own_slice oT
      generalize (ts ++ [(⟨p, q, lo, hi⟩ : Kt)]).length = nr at *
      (refine any_take 9 ?_ (by rfl) (by kernel_rfl) (fun _ _ _ _ _ hx => hx.elim) (.inl ⟨by rfl, ?_⟩) (by with_reducible assumption) ?_; rotate_left; (intro X hX; obtain ⟨r1, r2⟩ := Below.rules hX; clear hX; go_simp; rfl); simp only [List.getElem_toArray, List.getElem_cons_succ, List.getElem_cons_zero, Act.put, List.setIfInBounds_toArray, List.set_cons_succ, List.set_cons_zero])
      refine any_run1 (i := 11) (by kernel_rfl) (by rfl) (by kernel_rfl) ?_
      intro K hK
      have lxx := xx.lt
      have xxc0 := xx.cell 0
      have xxc1 := xx.cell 1
      simp at xxc0 xxc1
      have xxf0 := xx.frozen 0
      have xxf1 := xx.frozen 1
      go_wp2_with fail
      refine hK _ _ (fun hx => (Bool.false_ne_true (hx.symm.trans (by kernel_rfl))).elim) ?_
      clear hK K lxx xxc0 xxc1 xxf0 xxf1
      refine any_done (by kernel_rfl) (NoPanic.normal ?_)
      have hC8 : Below WQ.heap.size WQ ((vy157.setCell ⟨gxx, 0, none⟩ (.int .i64 N)).setCell ⟨gxx, 1, none⟩ (.slice Ar nr cr)) := Below.setCell (Below.setCell ey156 hqxx _) hqxx _
      have rs2 := (xx.set 0 (.int .i64 N)).set 1 (.slice Ar nr cr)
      simp at rs2
      have hne : (Value.slice Ar nr cr).ownBlock ≠ some gxx := fun hq => by
        obtain ⟨c, hc⟩ := own_block oT hq
        have hr := xx
        unfold BK at hr
        rw [hr] at hc
        injection hc with hc
        injection hc with _ hc
        exact absurd hc (by decide)
      exact ⟨_, _, _, _, _, _, _, _, _, _, gxx, nr, Ar, cr, rfl, rs2, own_far (own_far oT (p := ⟨gxx, 0, none⟩) hne (.int .i64 N)) (p := ⟨gxx, 1, none⟩) hne (.slice Ar nr cr), hC8⟩
  clear lbx bxc0 bxc1
  clear lbt btc0 btc1 btc2 btc3
  rintro a2 w2 ⟨z1, z2, z3, z4, z5, z6, z7, z8, z9, z10, gx, nr, Ar, cr, rfl, xx, oX, hb⟩
  simp only [Act.put, List.setIfInBounds_toArray, List.set_cons_succ, List.set_cons_zero]
  have hX := OwnT.ri oX
  clear oX
  replace hC : Below n0 w w2 := hC.trans (hb.mono (by have := hC.size; omega))
  replace hR := (RS.below hR hb).more hb.size
  replace bx := bx.below hb bx.lt
  replace bt := bt.below hb bt.lt
  replace b2 := b2.below hb b2.lt
  clear hb
  have HN2 : 2 ≤ N := by omega
  clear hN2 h7 h8
  have rx1 := D_rng HO.out HA.out (show a ≤ N by omega) (show z ≤ N by omega)
  have ry1 := D_rng HO.out HA.out (show z ≤ N by omega) (show a ≤ N by omega)
  obtain ⟨x1, hx1⟩ : ∃ x, -D N ts a z = x := ⟨_, rfl⟩
  obtain ⟨y1, hy1⟩ : ∃ x, D N ts z a = x := ⟨_, rfl⟩
  have Hx1 := Lib.hid hx1
  have Hy1 := Lib.hid hy1
  clear hx1 hy1 rx1 ry1
  have lbx := bx.lt
  have bxc0 := bx.cell 0
  have bxc1 := bx.cell 1
  simp at bxc0 bxc1
  have lxx := xx.lt
  have xxc0 := xx.cell 0
  have xxc1 := xx.cell 1
  simp at xxc0 xxc1
  go_wp2_with fail
  clear lbx bxc0 bxc1
  clear lxx xxc0 xxc1
  refine (spanN_any (u := a) (z := z) _ _ HBK.out HA.out haN hzN hne (by omega) hR).mono ?_
  rintro e w4 ⟨rfl, hb⟩
  replace hC : Below n0 w w4 := hC.trans (hb.mono (by have := hC.size; omega))
  replace hR := (RS.below hR hb).more hb.size
  replace bx := bx.below hb bx.lt
  replace bt := bt.below hb bt.lt
  replace b2 := b2.below hb b2.lt
  replace xx := xx.below hb xx.lt
  replace hX := (RS.below hX hb).more hb.size
  clear hb
  rw [Hx1.out, Hy1.out]
  have lbx := bx.lt
  have bxc0 := bx.cell 0
  have bxc1 := bx.cell 1
  simp at bxc0 bxc1
  have lxx := xx.lt
  have xxc0 := xx.cell 0
  have xxc1 := xx.cell 1
  simp at xxc0 xxc1
  go_wp2_with fail
  clear lbx bxc0 bxc1
  clear lxx xxc0 xxc1
  obtain ⟨m1, hm1⟩ : ∃ n, w4.heap.size = n := ⟨_, rfl⟩
  try rw [hm1]
  have hqr1 : n0 ≤ m1 := by have := hC.size; omega
  have r1 : BK (w4.alloc (.cells #[.int .i64 x1, .int .i64 y1] 36)) (m1) #[.int .i64 x1, .int .i64 y1] 36 := BK.new' _ _ _ (m1) hm1
  have hsr1 : (w4.alloc (.cells #[.int .i64 x1, .int .i64 y1] 36)).heap.size = m1 + 1 := by simp [hm1]
  replace hC : Below n0 w (w4.alloc (.cells #[.int .i64 x1, .int .i64 y1] 36)) := Below.alloc hC (by have := hC.size; omega) _
  replace hR := (RS.below hR (w' := (w4.alloc (.cells #[.int .i64 x1, .int .i64 y1] 36))) (Below.alloc (Below.refl _ _) (Nat.le_refl _) _)).more (B' := (w4.alloc (.cells #[.int .i64 x1, .int .i64 y1] 36)).heap.size) (by simp)
  replace bx := bx.alloc (.cells #[.int .i64 x1, .int .i64 y1] 36)
  replace bt := bt.alloc (.cells #[.int .i64 x1, .int .i64 y1] 36)
  replace b2 := b2.alloc (.cells #[.int .i64 x1, .int .i64 y1] 36)
  replace xx := xx.alloc (.cells #[.int .i64 x1, .int .i64 y1] 36)
  replace hX := (RS.below hX (w' := (w4.alloc (.cells #[.int .i64 x1, .int .i64 y1] 36))) (Below.alloc (Below.refl _ _) (Nat.le_refl _) _)).more (B' := (w4.alloc (.cells #[.int .i64 x1, .int .i64 y1] 36)).heap.size) (by simp)
  generalize (w4.alloc (.cells #[.int .i64 x1, .int .i64 y1] 36)) = Wr1 at *
  clear hm1
  by_cases ha2 : Agr N (ts ++ [⟨p, q, lo, hi⟩])
  case neg =>
    obtain rfl : tl = 2 := by rw [← HTL.out]; unfold tellsP; rw [if_neg ha2]
    have HA2 := Lib.hid ha2
    clear ha2
    clear hsr1
    refine (spanC_any (u := a) (z := z) _ _ HB2.out HA2.out haN hzN hne (by simp; omega) hX).mono ?_
    rintro e w5 ⟨rfl, hb⟩
    replace hC : Below n0 w w5 := hC.trans (hb.mono (by have := hC.size; omega))
    replace hR := (RS.below hR hb).more hb.size
    replace bx := bx.below hb bx.lt
    replace bt := bt.below hb bt.lt
    replace b2 := b2.below hb b2.lt
    replace xx := xx.below hb xx.lt
    replace hX := (RS.below hX hb).more hb.size
    replace r1 := r1.below hb r1.lt
    clear hb
    have lbx := bx.lt
    have bxc0 := bx.cell 0
    have bxc1 := bx.cell 1
    simp at bxc0 bxc1
    have lxx := xx.lt
    have xxc0 := xx.cell 0
    have xxc1 := xx.cell 1
    simp at xxc0 xxc1
    go_wp2_with fail
    clear lbx bxc0 bxc1
    clear lxx xxc0 xxc1
    obtain ⟨m2, hm2⟩ : ∃ n, w5.heap.size = n := ⟨_, rfl⟩
    try rw [hm2]
    have hqr2 : n0 ≤ m2 := by have := hC.size; omega
    have r2 : BK (w5.alloc (.cells #[.int .i64 0, .int .i64 0] 36)) (m2) #[.int .i64 0, .int .i64 0] 36 := BK.new' _ _ _ (m2) hm2
    have hsr2 : (w5.alloc (.cells #[.int .i64 0, .int .i64 0] 36)).heap.size = m2 + 1 := by simp [hm2]
    replace hC : Below n0 w (w5.alloc (.cells #[.int .i64 0, .int .i64 0] 36)) := Below.alloc hC (by have := hC.size; omega) _
    replace hR := (RS.below hR (w' := (w5.alloc (.cells #[.int .i64 0, .int .i64 0] 36))) (Below.alloc (Below.refl _ _) (Nat.le_refl _) _)).more (B' := (w5.alloc (.cells #[.int .i64 0, .int .i64 0] 36)).heap.size) (by simp)
    replace bx := bx.alloc (.cells #[.int .i64 0, .int .i64 0] 36)
    replace bt := bt.alloc (.cells #[.int .i64 0, .int .i64 0] 36)
    replace b2 := b2.alloc (.cells #[.int .i64 0, .int .i64 0] 36)
    replace xx := xx.alloc (.cells #[.int .i64 0, .int .i64 0] 36)
    replace hX := (RS.below hX (w' := (w5.alloc (.cells #[.int .i64 0, .int .i64 0] 36))) (Below.alloc (Below.refl _ _) (Nat.le_refl _) _)).more (B' := (w5.alloc (.cells #[.int .i64 0, .int .i64 0] 36)).heap.size) (by simp)
    replace r1 := r1.alloc (.cells #[.int .i64 0, .int .i64 0] 36)
    generalize (w5.alloc (.cells #[.int .i64 0, .int .i64 0] 36)) = Wr2 at *
    clear hm2
    go_wp2_with fail
    clear hsr2
    refine (works_any _).mono ?_
    rintro e w6 ⟨rfl, hb⟩
    replace hC : Below n0 w w6 := hC.trans (hb.mono (by have := hC.size; omega))
    replace hR := (RS.below hR hb).more hb.size
    replace bx := bx.below hb bx.lt
    replace bt := bt.below hb bt.lt
    replace b2 := b2.below hb b2.lt
    replace xx := xx.below hb xx.lt
    replace hX := (RS.below hX hb).more hb.size
    replace r1 := r1.below hb r1.lt
    replace r2 := r2.below hb r2.lt
    clear hb
    go_wp2_with fail
    exact bodyPost_ret (v := .bool true) (by simp [results, Try.results9, go_sem]) rfl ⟨rfl, by first | exact hC | (rw [hn0]; exact hC) | (with_reducible rw [hn0]; exact bel_of) | exact bel_of⟩
  have HA2 := Lib.hid ha2
  have htl : tl = if lo ≤ -D N ts p q ∧ D N ts q p ≤ hi then 0 else 1 := by rw [← HTL.out]; unfold tellsP; rw [if_pos ha2]; rfl
  have htl2 : ¬ tl = 2 := by rw [htl]; split <;> omega
  have b1 : (tl == 2) = false := by simp [htl2]
  have HTL2 := Lib.hid htl
  clear ha2 htl
  have sub : ∀ w, PotB N (ts ++ [⟨p, q, lo, hi⟩]) w → PotB N ts w := sub_snoc ts ⟨p, q, lo, hi⟩
  have SUB := Lib.hid sub
  clear sub
  have rx2 := D_rng HO2.out HA2.out (show a ≤ N by omega) (show z ≤ N by omega)
  have ry2 := D_rng HO2.out HA2.out (show z ≤ N by omega) (show a ≤ N by omega)
  obtain ⟨x2, hx2⟩ : ∃ x, -D N (ts ++ [⟨p, q, lo, hi⟩]) a z = x := ⟨_, rfl⟩
  obtain ⟨y2, hy2⟩ : ∃ x, D N (ts ++ [⟨p, q, lo, hi⟩]) z a = x := ⟨_, rfl⟩
  have rx3 := D_rng HO2.out HA2.out (show p ≤ N by omega) (show q ≤ N by omega)
  have ry3 := D_rng HO2.out HA2.out (show q ≤ N by omega) (show p ≤ N by omega)
  obtain ⟨x3, hx3⟩ : ∃ x, -D N (ts ++ [⟨p, q, lo, hi⟩]) p q = x := ⟨_, rfl⟩
  obtain ⟨y3, hy3⟩ : ∃ x, D N (ts ++ [⟨p, q, lo, hi⟩]) q p = x := ⟨_, rfl⟩
  have m1 := D_more HO.out HO2.out HA2.out SUB.out (show a ≤ N by omega) (show z ≤ N by omega)
  have m2 := D_more HO.out HO2.out HA2.out SUB.out (show z ≤ N by omega) (show a ≤ N by omega)
  have m3 := own_span HO2.out
  dsimp only at m3
  simp only [Int.toNat_natCast] at m3
  rw [hy2, Hy1.out] at m2
  rw [hy3] at m3
  have l1 : x1 ≤ x2 := by have := Hx1.out; omega
  have l2 : y2 ≤ y1 := m2
  have l3 : lo ≤ x3 := by omega
  have l4 : y3 ≤ hi := by omega
  have l1' : ¬ x2 < x1 := by omega
  have l2' : ¬ y2 > y1 := by omega
  have l3' : ¬ x3 < lo := by omega
  have l4' : ¬ y3 > hi := by omega
  have Hx2 := Lib.hid hx2
  have Hy2 := Lib.hid hy2
  have Hx3 := Lib.hid hx3
  have Hy3 := Lib.hid hy3
  clear hx2 hy2 hx3 hy3 rx2 ry2 rx3 ry3 m1 m2 m3 l1 l2 l3 l4
  clear hsr1
  refine (spanN_any (u := a) (z := z) _ _ HB2.out HA2.out haN hzN hne (by simp; omega) hX).mono ?_
  rintro e w5 ⟨rfl, hb⟩
  replace hC : Below n0 w w5 := hC.trans (hb.mono (by have := hC.size; omega))
  replace hR := (RS.below hR hb).more hb.size
  replace bx := bx.below hb bx.lt
  replace bt := bt.below hb bt.lt
  replace b2 := b2.below hb b2.lt
  replace xx := xx.below hb xx.lt
  replace hX := (RS.below hX hb).more hb.size
  replace r1 := r1.below hb r1.lt
  clear hb
  rw [Hx2.out, Hy2.out]
  have lbx := bx.lt
  have bxc0 := bx.cell 0
  have bxc1 := bx.cell 1
  simp at bxc0 bxc1
  have lxx := xx.lt
  have xxc0 := xx.cell 0
  have xxc1 := xx.cell 1
  simp at xxc0 xxc1
  have lbt := bt.lt
  have btc0 := bt.cell 0
  have btc1 := bt.cell 1
  have btc2 := bt.cell 2
  have btc3 := bt.cell 3
  simp at btc0 btc1 btc2 btc3
  go_wp2_with fail
  clear lbx bxc0 bxc1
  clear lxx xxc0 xxc1
  clear lbt btc0 btc1 btc2 btc3
  obtain ⟨m3, hm3⟩ : ∃ n, w5.heap.size = n := ⟨_, rfl⟩
  try rw [hm3]
  have hqr2 : n0 ≤ m3 := by have := hC.size; omega
  have r2 : BK (w5.alloc (.cells #[.int .i64 x2, .int .i64 y2] 36)) (m3) #[.int .i64 x2, .int .i64 y2] 36 := BK.new' _ _ _ (m3) hm3
  have hsr2 : (w5.alloc (.cells #[.int .i64 x2, .int .i64 y2] 36)).heap.size = m3 + 1 := by simp [hm3]
  replace hC : Below n0 w (w5.alloc (.cells #[.int .i64 x2, .int .i64 y2] 36)) := Below.alloc hC (by have := hC.size; omega) _
  replace hR := (RS.below hR (w' := (w5.alloc (.cells #[.int .i64 x2, .int .i64 y2] 36))) (Below.alloc (Below.refl _ _) (Nat.le_refl _) _)).more (B' := (w5.alloc (.cells #[.int .i64 x2, .int .i64 y2] 36)).heap.size) (by simp)
  replace bx := bx.alloc (.cells #[.int .i64 x2, .int .i64 y2] 36)
  replace bt := bt.alloc (.cells #[.int .i64 x2, .int .i64 y2] 36)
  replace b2 := b2.alloc (.cells #[.int .i64 x2, .int .i64 y2] 36)
  replace xx := xx.alloc (.cells #[.int .i64 x2, .int .i64 y2] 36)
  replace hX := (RS.below hX (w' := (w5.alloc (.cells #[.int .i64 x2, .int .i64 y2] 36))) (Below.alloc (Below.refl _ _) (Nat.le_refl _) _)).more (B' := (w5.alloc (.cells #[.int .i64 x2, .int .i64 y2] 36)).heap.size) (by simp)
  replace r1 := r1.alloc (.cells #[.int .i64 x2, .int .i64 y2] 36)
  generalize (w5.alloc (.cells #[.int .i64 x2, .int .i64 y2] 36)) = Wr2 at *
  clear hm3
  clear hsr2
  refine (spanN_any (u := p) (z := q) _ _ HB2.out HA2.out hpN hqN hpq (by simp; omega) hX).mono ?_
  rintro e w6 ⟨rfl, hb⟩
  replace hC : Below n0 w w6 := hC.trans (hb.mono (by have := hC.size; omega))
  replace hR := (RS.below hR hb).more hb.size
  replace bx := bx.below hb bx.lt
  replace bt := bt.below hb bt.lt
  replace b2 := b2.below hb b2.lt
  replace xx := xx.below hb xx.lt
  replace hX := (RS.below hX hb).more hb.size
  replace r1 := r1.below hb r1.lt
  replace r2 := r2.below hb r2.lt
  clear hb
  rw [Hx3.out, Hy3.out]
  have lbx := bx.lt
  have bxc0 := bx.cell 0
  have bxc1 := bx.cell 1
  simp at bxc0 bxc1
  have lxx := xx.lt
  have xxc0 := xx.cell 0
  have xxc1 := xx.cell 1
  simp at xxc0 xxc1
  go_wp2_with fail
  clear lbx bxc0 bxc1
  clear lxx xxc0 xxc1
  obtain ⟨m4, hm4⟩ : ∃ n, w6.heap.size = n := ⟨_, rfl⟩
  try rw [hm4]
  have hqr3 : n0 ≤ m4 := by have := hC.size; omega
  have r3 : BK (w6.alloc (.cells #[.int .i64 x3, .int .i64 y3] 36)) (m4) #[.int .i64 x3, .int .i64 y3] 36 := BK.new' _ _ _ (m4) hm4
  have hsr3 : (w6.alloc (.cells #[.int .i64 x3, .int .i64 y3] 36)).heap.size = m4 + 1 := by simp [hm4]
  replace hC : Below n0 w (w6.alloc (.cells #[.int .i64 x3, .int .i64 y3] 36)) := Below.alloc hC (by have := hC.size; omega) _
  replace hR := (RS.below hR (w' := (w6.alloc (.cells #[.int .i64 x3, .int .i64 y3] 36))) (Below.alloc (Below.refl _ _) (Nat.le_refl _) _)).more (B' := (w6.alloc (.cells #[.int .i64 x3, .int .i64 y3] 36)).heap.size) (by simp)
  replace bx := bx.alloc (.cells #[.int .i64 x3, .int .i64 y3] 36)
  replace bt := bt.alloc (.cells #[.int .i64 x3, .int .i64 y3] 36)
  replace b2 := b2.alloc (.cells #[.int .i64 x3, .int .i64 y3] 36)
  replace xx := xx.alloc (.cells #[.int .i64 x3, .int .i64 y3] 36)
  replace hX := (RS.below hX (w' := (w6.alloc (.cells #[.int .i64 x3, .int .i64 y3] 36))) (Below.alloc (Below.refl _ _) (Nat.le_refl _) _)).more (B' := (w6.alloc (.cells #[.int .i64 x3, .int .i64 y3] 36)).heap.size) (by simp)
  replace r1 := r1.alloc (.cells #[.int .i64 x3, .int .i64 y3] 36)
  replace r2 := r2.alloc (.cells #[.int .i64 x3, .int .i64 y3] 36)
  generalize (w6.alloc (.cells #[.int .i64 x3, .int .i64 y3] 36)) = Wr3 at *
  clear hm4
  have lbx := bx.lt
  have bxc0 := bx.cell 0
  have bxc1 := bx.cell 1
  simp at bxc0 bxc1
  have lxx := xx.lt
  have xxc0 := xx.cell 0
  have xxc1 := xx.cell 1
  simp at xxc0 xxc1
  go_wp2_with fail
  clear lbx bxc0 bxc1
  clear lxx xxc0 xxc1
  clear hsr3
  refine (((sureP_any N _ _ _ (by first | omega | (simp; omega)) hR).mono fun _ _ h => listN HBK.out HA.out h)).mono ?_
  rintro e w7 ⟨v1, rfl, hv1, hb⟩
  replace hC : Below n0 w w7 := hC.trans (hb.mono (by have := hC.size; omega))
  replace hR := (RS.below hR hb).more hb.size
  replace bx := bx.below hb bx.lt
  replace bt := bt.below hb bt.lt
  replace b2 := b2.below hb b2.lt
  replace xx := xx.below hb xx.lt
  replace hX := (RS.below hX hb).more hb.size
  replace r1 := r1.below hb r1.lt
  replace r2 := r2.below hb r2.lt
  replace r3 := r3.below hb r3.lt
  clear hb
  obtain ⟨sa, hsa⟩ : ∃ l, sureP N ts = l := ⟨_, rfl⟩
  rw [hsa] at hv1
  obtain ⟨A_1, c_1, rfl⟩ := ri_slice hv1
  have Hsa := Lib.hid hsa
  clear hsa
  have lbx := bx.lt
  have bxc0 := bx.cell 0
  have bxc1 := bx.cell 1
  simp at bxc0 bxc1
  have lxx := xx.lt
  have xxc0 := xx.cell 0
  have xxc1 := xx.cell 1
  simp at xxc0 xxc1
  go_wp2_with fail
  clear lbx bxc0 bxc1
  clear lxx xxc0 xxc1
  refine (((sureP_any N _ _ _ (by first | omega | (simp; omega)) hX).mono fun _ _ h => listN HB2.out HA2.out h)).mono ?_
  rintro e w8 ⟨v2, rfl, hv2, hb⟩
  replace hC : Below n0 w w8 := hC.trans (hb.mono (by have := hC.size; omega))
  replace hR := (RS.below hR hb).more hb.size
  replace bx := bx.below hb bx.lt
  replace bt := bt.below hb bt.lt
  replace b2 := b2.below hb b2.lt
  replace xx := xx.below hb xx.lt
  replace hX := (RS.below hX hb).more hb.size
  replace r1 := r1.below hb r1.lt
  replace r2 := r2.below hb r2.lt
  replace r3 := r3.below hb r3.lt
  replace hv1 := (RS.below hv1 hb).more hb.size
  clear hb
  obtain ⟨sc, hsc⟩ : ∃ l, sureP N (ts ++ [⟨p, q, lo, hi⟩]) = l := ⟨_, rfl⟩
  rw [hsc] at hv2
  obtain ⟨A_2, c_2, rfl⟩ := ri_slice hv2
  have Hsc := Lib.hid hsc
  clear hsc
  have lbx := bx.lt
  have bxc0 := bx.cell 0
  have bxc1 := bx.cell 1
  simp at bxc0 bxc1
  have lxx := xx.lt
  have xxc0 := xx.cell 0
  have xxc1 := xx.cell 1
  simp at xxc0 xxc1
  go_wp2_with fail
  clear lbx bxc0 bxc1
  clear lxx xxc0 xxc1
  refine (((mayP_any N _ _ _ (by first | omega | (simp; omega)) hR).mono fun _ _ h => listN HBK.out HA.out h)).mono ?_
  rintro e w9 ⟨v3, rfl, hv3, hb⟩
  replace hC : Below n0 w w9 := hC.trans (hb.mono (by have := hC.size; omega))
  replace hR := (RS.below hR hb).more hb.size
  replace bx := bx.below hb bx.lt
  replace bt := bt.below hb bt.lt
  replace b2 := b2.below hb b2.lt
  replace xx := xx.below hb xx.lt
  replace hX := (RS.below hX hb).more hb.size
  replace r1 := r1.below hb r1.lt
  replace r2 := r2.below hb r2.lt
  replace r3 := r3.below hb r3.lt
  replace hv1 := (RS.below hv1 hb).more hb.size
  replace hv2 := (RS.below hv2 hb).more hb.size
  clear hb
  obtain ⟨sm, hsm⟩ : ∃ l, mayP N ts = l := ⟨_, rfl⟩
  rw [hsm] at hv3
  obtain ⟨A_3, c_3, rfl⟩ := ri_slice hv3
  have Hsm := Lib.hid hsm
  clear hsm
  have lbx := bx.lt
  have bxc0 := bx.cell 0
  have bxc1 := bx.cell 1
  simp at bxc0 bxc1
  have lxx := xx.lt
  have xxc0 := xx.cell 0
  have xxc1 := xx.cell 1
  simp at xxc0 xxc1
  go_wp2_with fail
  clear lbx bxc0 bxc1
  clear lxx xxc0 xxc1
  refine (((mayP_any N _ _ _ (by first | omega | (simp; omega)) hX).mono fun _ _ h => listN HB2.out HA2.out h)).mono ?_
  rintro e w10 ⟨v4, rfl, hv4, hb⟩
  replace hC : Below n0 w w10 := hC.trans (hb.mono (by have := hC.size; omega))
  replace hR := (RS.below hR hb).more hb.size
  replace bx := bx.below hb bx.lt
  replace bt := bt.below hb bt.lt
  replace b2 := b2.below hb b2.lt
  replace xx := xx.below hb xx.lt
  replace hX := (RS.below hX hb).more hb.size
  replace r1 := r1.below hb r1.lt
  replace r2 := r2.below hb r2.lt
  replace r3 := r3.below hb r3.lt
  replace hv1 := (RS.below hv1 hb).more hb.size
  replace hv2 := (RS.below hv2 hb).more hb.size
  replace hv3 := (RS.below hv3 hb).more hb.size
  clear hb
  obtain ⟨sn, hsn⟩ : ∃ l, mayP N (ts ++ [⟨p, q, lo, hi⟩]) = l := ⟨_, rfl⟩
  rw [hsn] at hv4
  obtain ⟨A_4, c_4, rfl⟩ := ri_slice hv4
  have Hsn := Lib.hid hsn
  clear hsn
  have n1 : sa.length ≤ sc.length := by rw [← Hsa.out, ← Hsc.out]; exact ev_mono fun k hk hs => sure_more HO.out HO2.out HA2.out hk hs
  have n2 : sn.length ≤ sm.length := by rw [← Hsn.out, ← Hsm.out]; exact ev_mono fun k hk hs => may_more HO.out HO2.out hk hs
  have n3 : 0 < sn.length := by rw [← Hsn.out]; exact mayP_pos HO2.out HA2.out
  have s1 : ∀ x, x ∈ sa → x ∈ sc := fun x hx => by
    rw [← Hsa.out] at hx
    obtain ⟨k, hk, hs, e⟩ := ev_mem.1 hx
    rw [← Hsc.out]
    exact ev_mem.2 ⟨k, hk, sure_more HO.out HO2.out HA2.out hk hs, e⟩
  have s2 : ∀ x, x ∈ sn → x ∈ sm := fun x hx => by
    rw [← Hsn.out] at hx
    obtain ⟨k, hk, hs, e⟩ := ev_mem.1 hx
    rw [← Hsm.out]
    exact ev_mem.2 ⟨k, hk, may_more HO.out HO2.out hk hs, e⟩
  have k1 : sa.length ≤ 1000 := by rw [← Hsa.out]; exact Nat.le_trans (sureP_len _ _) (by omega)
  have k2 : sc.length ≤ 1000 := by rw [← Hsc.out]; exact Nat.le_trans (sureP_len _ _) (by omega)
  have k3 : sm.length ≤ 1000 := by rw [← Hsm.out]; exact Nat.le_trans (mayP_len _ _) (by omega)
  have k4 : sn.length ≤ 1000 := by rw [← Hsn.out]; exact Nat.le_trans (mayP_len _ _) (by omega)
  have n1' : decide (sc.length < sa.length) = false := decide_eq_false (by omega)
  have n2' : decide (sm.length < sn.length) = false := decide_eq_false (by omega)
  have n3' : decide ((sn.length : Int) < 1) = false := decide_eq_false (by omega)
  have n4' : decide (x2 < x1) = false := decide_eq_false (by omega)
  have n5' : decide (y1 < y2) = false := decide_eq_false (by omega)
  have n6' : decide (x3 < lo) = false := decide_eq_false (by omega)
  have n7' : decide (hi < y3) = false := decide_eq_false (by omega)
  have n8' : decide (sn.length < 1) = false := decide_eq_false (by omega)
  have S1 := Lib.hid s1
  have S2 := Lib.hid s2
  clear s1 s2 n1 n2 n3
  have lbx := bx.lt
  have bxc0 := bx.cell 0
  have bxc1 := bx.cell 1
  simp at bxc0 bxc1
  have lxx := xx.lt
  have xxc0 := xx.cell 0
  have xxc1 := xx.cell 1
  simp at xxc0 xxc1
  have lbt := bt.lt
  have btc0 := bt.cell 0
  have btc1 := bt.cell 1
  have btc2 := bt.cell 2
  have btc3 := bt.cell 3
  simp at btc0 btc1 btc2 btc3
  have lr1 := r1.lt
  have r1c0 := r1.cell 0
  have r1c1 := r1.cell 1
  simp at r1c0 r1c1
  have lr2 := r2.lt
  have r2c0 := r2.cell 0
  have r2c1 := r2.cell 1
  simp at r2c0 r2c1
  have lr3 := r3.lt
  have r3c0 := r3.cell 0
  have r3c1 := r3.cell 1
  simp at r3c0 r3c1
  go_wp2_with fail
  clear lbx bxc0 bxc1
  clear lxx xxc0 xxc1
  clear lbt btc0 btc1 btc2 btc3
  clear lr1 r1c0 r1c1
  clear lr2 r2c0 r2c1
  clear lr3 r3c0 r3c1
  clear n1' n2' n3' n4' n5' n6' n7' n8'
  go_loopw [26] (fun i wr => ∃ k : Nat, k ≤ sa.length ∧ i = .int .i64 k ∧ Below w10.heap.size w10 wr) (fun i _ => sa.length - (intOf i).toNat)
  case atStart => exact ⟨0, Nat.zero_le _, rfl, by first | exact Below.refl _ _ | exact bel_of⟩
  case round =>
    obtain ⟨k, hk, rfl, hb⟩ := hrel
    have hbr := Lib.hid hb
    replace hC : Below n0 w wr := hC.trans (hb.mono (by have := hC.size; omega))
    replace hR := (RS.below hR hb).more hb.size
    replace bx := bx.below hb bx.lt
    replace bt := bt.below hb bt.lt
    replace b2 := b2.below hb b2.lt
    replace xx := xx.below hb xx.lt
    replace hX := (RS.below hX hb).more hb.size
    replace r1 := r1.below hb r1.lt
    replace r2 := r2.below hb r2.lt
    replace r3 := r3.below hb r3.lt
    replace hv1 := (RS.below hv1 hb).more hb.size
    replace hv2 := (RS.below hv2 hb).more hb.size
    replace hv3 := (RS.below hv3 hb).more hb.size
    replace hv4 := (RS.below hv4 hb).more hb.size
    clear hb
    by_cases hlt : k < sa.length
    case pos =>
      have hlt' : (k : Int) < (sa.length : Int) := by omega
      obtain ⟨Ax, cx, bb, off, hve, hAx, hcx⟩ := RI.cells hv1
      obtain ⟨rfl, hbb⟩ := hAx (by omega)
      injection hve with q1 q2 q3
      subst q1 q3
      have c0 := hcx k hlt
      have hmem : nthI sa k ∈ sc := S1.out _ (nthI_mem hlt)
      have HM := Lib.hid hmem
      clear hAx hcx q2 hmem
      go_wp2_with fail
      refine (in_any _ _ _ _ (by omega) hv2).mono ?_
      rintro e w11 ⟨rfl, hb⟩
      replace hC : Below n0 w w11 := hC.trans (hb.mono (by have := hC.size; omega))
      replace hR := (RS.below hR hb).more hb.size
      replace bx := bx.below hb bx.lt
      replace bt := bt.below hb bt.lt
      replace b2 := b2.below hb b2.lt
      replace xx := xx.below hb xx.lt
      replace hX := (RS.below hX hb).more hb.size
      replace r1 := r1.below hb r1.lt
      replace r2 := r2.below hb r2.lt
      replace r3 := r3.below hb r3.lt
      replace hv1 := (RS.below hv1 hb).more hb.size
      replace hv2 := (RS.below hv2 hb).more hb.size
      replace hv3 := (RS.below hv3 hb).more hb.size
      replace hv4 := (RS.below hv4 hb).more hb.size
      have hbr2 := Lib.hid (hbr.out.trans (hb.mono hbr.out.size))
      clear hb
      rw [decide_eq_true HM.out]
      go_wp2_with fail
      go_roundw
      case rel => exact ⟨k + 1, by omega, by go_num, hbr2.out⟩
      case measure => simp [intOf]; omega
    have hlt' : ¬ (k : Int) < (sa.length : Int) := by omega
    clear hbr
    go_wp2_with fail
    obtain ⟨wo, rfl⟩ : ∃ wo : World, wo = wr := ⟨_, rfl⟩
    skip
    go_loopw [27] (fun i wr => ∃ k : Nat, k ≤ sn.length ∧ i = .int .i64 k ∧ Below wo.heap.size wo wr) (fun i _ => sn.length - (intOf i).toNat)
    case atStart => exact ⟨0, Nat.zero_le _, rfl, by first | exact Below.refl _ _ | exact bel_of⟩
    case round =>
      obtain ⟨k, hk, rfl, hb⟩ := hrel
      have hbr := Lib.hid hb
      replace hC : Below n0 w wr := hC.trans (hb.mono (by have := hC.size; omega))
      replace hR := (RS.below hR hb).more hb.size
      replace bx := bx.below hb bx.lt
      replace bt := bt.below hb bt.lt
      replace b2 := b2.below hb b2.lt
      replace xx := xx.below hb xx.lt
      replace hX := (RS.below hX hb).more hb.size
      replace r1 := r1.below hb r1.lt
      replace r2 := r2.below hb r2.lt
      replace r3 := r3.below hb r3.lt
      replace hv1 := (RS.below hv1 hb).more hb.size
      replace hv2 := (RS.below hv2 hb).more hb.size
      replace hv3 := (RS.below hv3 hb).more hb.size
      replace hv4 := (RS.below hv4 hb).more hb.size
      clear hb
      by_cases hlt : k < sn.length
      case pos =>
        have hlt' : (k : Int) < (sn.length : Int) := by omega
        obtain ⟨Ax, cx, bb, off, hve, hAx, hcx⟩ := RI.cells hv4
        obtain ⟨rfl, hbb⟩ := hAx (by omega)
        injection hve with q1 q2 q3
        subst q1 q3
        have c0 := hcx k hlt
        have hmem : nthI sn k ∈ sm := S2.out _ (nthI_mem hlt)
        have HM := Lib.hid hmem
        clear hAx hcx q2 hmem
        go_wp2_with fail
        refine (in_any _ _ _ _ (by omega) hv3).mono ?_
        rintro e w11 ⟨rfl, hb⟩
        replace hC : Below n0 w w11 := hC.trans (hb.mono (by have := hC.size; omega))
        replace hR := (RS.below hR hb).more hb.size
        replace bx := bx.below hb bx.lt
        replace bt := bt.below hb bt.lt
        replace b2 := b2.below hb b2.lt
        replace xx := xx.below hb xx.lt
        replace hX := (RS.below hX hb).more hb.size
        replace r1 := r1.below hb r1.lt
        replace r2 := r2.below hb r2.lt
        replace r3 := r3.below hb r3.lt
        replace hv1 := (RS.below hv1 hb).more hb.size
        replace hv2 := (RS.below hv2 hb).more hb.size
        replace hv3 := (RS.below hv3 hb).more hb.size
        replace hv4 := (RS.below hv4 hb).more hb.size
        have hbr2 := Lib.hid (hbr.out.trans (hb.mono hbr.out.size))
        clear hb
        rw [decide_eq_true HM.out]
        go_wp2_with fail
        go_roundw
        case rel => exact ⟨k + 1, by omega, by go_num, hbr2.out⟩
        case measure => simp [intOf]; omega
      have hlt' : ¬ (k : Int) < (sn.length : Int) := by omega
      clear hbr
      by_cases h0 : tl = 0
      case pos =>
        subst h0
        have hin : lo ≤ -D N ts p q ∧ D N ts q p ≤ hi := by
          have := HTL2.out
          split at this
          · assumption
          · omega
        have hpot : ∀ w, PotB N (ts ++ [⟨p, q, lo, hi⟩]) w ↔ PotB N ts w := nothing_pot HO.out HO2.out hin.1 hin.2
        have e1 : x2 = x1 := by rw [← Hx2.out, ← Hx1.out, D_same HO.out HO2.out HA.out HA2.out hpot (by omega) (by omega)]
        have e2 : y2 = y1 := by rw [← Hy2.out, ← Hy1.out, D_same HO.out HO2.out HA.out HA2.out hpot (by omega) (by omega)]
        have e3 : sa = sc := by
          rw [← Hsa.out, ← Hsc.out]
          exact ev_congr fun k hk => by
            rw [Bool.eq_iff_iff]
            exact ⟨fun hs => sure_more HO.out HO2.out HA2.out hk hs, fun hs => sureB_iff.2 fun u hu => by
              rcases sureB_iff.1 hs u hu with e | e
              · exact .inl e
              · rw [D_same HO.out HO2.out HA.out HA2.out hpot (by omega) (by omega)] at e
                exact .inr e⟩
        have e4 : sm = sn := by
          rw [← Hsm.out, ← Hsn.out]
          exact ev_congr fun k hk => by
            rw [Bool.eq_iff_iff]
            exact ⟨fun hs => by
              obtain ⟨w, h1, h2⟩ := (mayB_iff HO.out hk).1 hs
              exact (mayB_iff HO2.out hk).2 ⟨w, (hpot w).2 h1, h2⟩, fun hs => may_more HO.out HO2.out hk hs⟩
        clear hin hpot
        subst e1 e2 e3 e4
        have lr1 := r1.lt
        have r1c0 := r1.cell 0
        have r1c1 := r1.cell 1
        simp at r1c0 r1c1
        have lr2 := r2.lt
        have r2c0 := r2.cell 0
        have r2c1 := r2.cell 1
        simp at r2c0 r2c1
        go_wp2_with fail
        clear lr1 r1c0 r1c1
        clear lr2 r2c0 r2c1
        refine (ints_any _ _ _ _ _ (by omega) (by omega) hv1 hv2).mono ?_
        rintro e w11 ⟨rfl, hb⟩
        replace hC : Below n0 w w11 := hC.trans (hb.mono (by have := hC.size; omega))
        replace hR := (RS.below hR hb).more hb.size
        replace bx := bx.below hb bx.lt
        replace bt := bt.below hb bt.lt
        replace b2 := b2.below hb b2.lt
        replace xx := xx.below hb xx.lt
        replace hX := (RS.below hX hb).more hb.size
        replace r1 := r1.below hb r1.lt
        replace r2 := r2.below hb r2.lt
        replace r3 := r3.below hb r3.lt
        replace hv1 := (RS.below hv1 hb).more hb.size
        replace hv2 := (RS.below hv2 hb).more hb.size
        replace hv3 := (RS.below hv3 hb).more hb.size
        replace hv4 := (RS.below hv4 hb).more hb.size
        clear hb
        rw [decide_eq_true rfl]
        go_wp2_with fail
        refine (ints_any _ _ _ _ _ (by omega) (by omega) hv3 hv4).mono ?_
        rintro e w12 ⟨rfl, hb⟩
        replace hC : Below n0 w w12 := hC.trans (hb.mono (by have := hC.size; omega))
        replace hR := (RS.below hR hb).more hb.size
        replace bx := bx.below hb bx.lt
        replace bt := bt.below hb bt.lt
        replace b2 := b2.below hb b2.lt
        replace xx := xx.below hb xx.lt
        replace hX := (RS.below hX hb).more hb.size
        replace r1 := r1.below hb r1.lt
        replace r2 := r2.below hb r2.lt
        replace r3 := r3.below hb r3.lt
        replace hv1 := (RS.below hv1 hb).more hb.size
        replace hv2 := (RS.below hv2 hb).more hb.size
        replace hv3 := (RS.below hv3 hb).more hb.size
        replace hv4 := (RS.below hv4 hb).more hb.size
        clear hb
        rw [decide_eq_true rfl]
        go_wp2_with fail
        refine (works_any _).mono ?_
        rintro e w13 ⟨rfl, hb⟩
        replace hC : Below n0 w w13 := hC.trans (hb.mono (by have := hC.size; omega))
        replace hR := (RS.below hR hb).more hb.size
        replace bx := bx.below hb bx.lt
        replace bt := bt.below hb bt.lt
        replace b2 := b2.below hb b2.lt
        replace xx := xx.below hb xx.lt
        replace hX := (RS.below hX hb).more hb.size
        replace r1 := r1.below hb r1.lt
        replace r2 := r2.below hb r2.lt
        replace r3 := r3.below hb r3.lt
        replace hv1 := (RS.below hv1 hb).more hb.size
        replace hv2 := (RS.below hv2 hb).more hb.size
        replace hv3 := (RS.below hv3 hb).more hb.size
        replace hv4 := (RS.below hv4 hb).more hb.size
        clear hb
        go_wp2_with fail
        exact bodyPost_ret (v := .bool true) (by simp [results, Try.results9, go_sem]) rfl ⟨rfl, by first | exact hC | (rw [hn0]; exact hC) | (with_reducible rw [hn0]; exact bel_of) | exact bel_of⟩
      have hnot : ¬ (lo ≤ -D N ts p q ∧ D N ts q p ≤ hi) := fun h => h0 (by rw [HTL2.out, if_pos h])
      obtain rfl : tl = 1 := by rw [HTL2.out, if_neg hnot]
      clear h0
      have rx4 := D_rng HO.out HA.out (show p ≤ N by omega) (show q ≤ N by omega)
      have ry4 := D_rng HO.out HA.out (show q ≤ N by omega) (show p ≤ N by omega)
      obtain ⟨x4, hx4⟩ : ∃ x, -D N ts p q = x := ⟨_, rfl⟩
      obtain ⟨y4, hy4⟩ : ∃ x, D N ts q p = x := ⟨_, rfl⟩
      rw [hx4, hy4] at hnot
      have Hx4 := Lib.hid hx4
      have Hy4 := Lib.hid hy4
      have HNE := Lib.hid (show ¬ (x3 = x4 ∧ y3 = y4) by
        rintro ⟨rfl, rfl⟩
        exact hnot ⟨by omega, by omega⟩)
      clear hx4 hy4 rx4 ry4 hnot
      have lbx := bx.lt
      have bxc0 := bx.cell 0
      have bxc1 := bx.cell 1
      simp at bxc0 bxc1
      have lxx := xx.lt
      have xxc0 := xx.cell 0
      have xxc1 := xx.cell 1
      simp at xxc0 xxc1
      have lbt := bt.lt
      have btc0 := bt.cell 0
      have btc1 := bt.cell 1
      have btc2 := bt.cell 2
      have btc3 := bt.cell 3
      simp at btc0 btc1 btc2 btc3
      go_wp2_with fail
      clear lbx bxc0 bxc1
      clear lxx xxc0 xxc1
      clear lbt btc0 btc1 btc2 btc3
      refine (spanN_any (u := p) (z := q) _ _ HBK.out HA.out hpN hqN hpq (by omega) hR).mono ?_
      rintro e w11 ⟨rfl, hb⟩
      replace hC : Below n0 w w11 := hC.trans (hb.mono (by have := hC.size; omega))
      replace hR := (RS.below hR hb).more hb.size
      replace bx := bx.below hb bx.lt
      replace bt := bt.below hb bt.lt
      replace b2 := b2.below hb b2.lt
      replace xx := xx.below hb xx.lt
      replace hX := (RS.below hX hb).more hb.size
      replace r1 := r1.below hb r1.lt
      replace r2 := r2.below hb r2.lt
      replace r3 := r3.below hb r3.lt
      replace hv1 := (RS.below hv1 hb).more hb.size
      replace hv2 := (RS.below hv2 hb).more hb.size
      replace hv3 := (RS.below hv3 hb).more hb.size
      replace hv4 := (RS.below hv4 hb).more hb.size
      clear hb
      rw [Hx4.out, Hy4.out]
      have lbx := bx.lt
      have bxc0 := bx.cell 0
      have bxc1 := bx.cell 1
      simp at bxc0 bxc1
      go_upto_region 37 with fail
      clear lbx bxc0 bxc1
      obtain ⟨m5, hm5⟩ : ∃ n, w11.heap.size = n := ⟨_, rfl⟩
      try rw [hm5]
      have hqr4 : n0 ≤ m5 := by have := hC.size; omega
      have r4 : BK (w11.alloc (.cells #[.int .i64 x4, .int .i64 y4] 36)) (m5) #[.int .i64 x4, .int .i64 y4] 36 := BK.new' _ _ _ (m5) hm5
      have hsr4 : (w11.alloc (.cells #[.int .i64 x4, .int .i64 y4] 36)).heap.size = m5 + 1 := by simp [hm5]
      replace hC : Below n0 w (w11.alloc (.cells #[.int .i64 x4, .int .i64 y4] 36)) := Below.alloc hC (by have := hC.size; omega) _
      replace hR := (RS.below hR (w' := (w11.alloc (.cells #[.int .i64 x4, .int .i64 y4] 36))) (Below.alloc (Below.refl _ _) (Nat.le_refl _) _)).more (B' := (w11.alloc (.cells #[.int .i64 x4, .int .i64 y4] 36)).heap.size) (by simp)
      replace bx := bx.alloc (.cells #[.int .i64 x4, .int .i64 y4] 36)
      replace bt := bt.alloc (.cells #[.int .i64 x4, .int .i64 y4] 36)
      replace b2 := b2.alloc (.cells #[.int .i64 x4, .int .i64 y4] 36)
      replace xx := xx.alloc (.cells #[.int .i64 x4, .int .i64 y4] 36)
      replace hX := (RS.below hX (w' := (w11.alloc (.cells #[.int .i64 x4, .int .i64 y4] 36))) (Below.alloc (Below.refl _ _) (Nat.le_refl _) _)).more (B' := (w11.alloc (.cells #[.int .i64 x4, .int .i64 y4] 36)).heap.size) (by simp)
      replace r1 := r1.alloc (.cells #[.int .i64 x4, .int .i64 y4] 36)
      replace r2 := r2.alloc (.cells #[.int .i64 x4, .int .i64 y4] 36)
      replace r3 := r3.alloc (.cells #[.int .i64 x4, .int .i64 y4] 36)
      replace hv1 := (RS.below hv1 (w' := (w11.alloc (.cells #[.int .i64 x4, .int .i64 y4] 36))) (Below.alloc (Below.refl _ _) (Nat.le_refl _) _)).more (B' := (w11.alloc (.cells #[.int .i64 x4, .int .i64 y4] 36)).heap.size) (by simp)
      replace hv2 := (RS.below hv2 (w' := (w11.alloc (.cells #[.int .i64 x4, .int .i64 y4] 36))) (Below.alloc (Below.refl _ _) (Nat.le_refl _) _)).more (B' := (w11.alloc (.cells #[.int .i64 x4, .int .i64 y4] 36)).heap.size) (by simp)
      replace hv3 := (RS.below hv3 (w' := (w11.alloc (.cells #[.int .i64 x4, .int .i64 y4] 36))) (Below.alloc (Below.refl _ _) (Nat.le_refl _) _)).more (B' := (w11.alloc (.cells #[.int .i64 x4, .int .i64 y4] 36)).heap.size) (by simp)
      replace hv4 := (RS.below hv4 (w' := (w11.alloc (.cells #[.int .i64 x4, .int .i64 y4] 36))) (Below.alloc (Below.refl _ _) (Nat.le_refl _) _)).more (B' := (w11.alloc (.cells #[.int .i64 x4, .int .i64 y4] 36)).heap.size) (by simp)
      generalize (w11.alloc (.cells #[.int .i64 x4, .int .i64 y4] 36)) = Wr4 at *
      clear hm5
      have hne4 := HNE.out
      have lr3 := r3.lt
      have r3c0 := r3.cell 0
      have r3c1 := r3.cell 1
      simp at r3c0 r3c1
      have lr4 := r4.lt
      have r4c0 := r4.cell 0
      have r4c1 := r4.cell 1
      simp at r4c0 r4c1
      go_wp2_with fail
      clear lr3 r3c0 r3c1
      clear lr4 r4c0 r4c1
      all_goals
        clear hsr4
        refine (works_any _).mono ?_
        rintro e w12 ⟨rfl, hb⟩
        replace hC : Below n0 w w12 := hC.trans (hb.mono (by have := hC.size; omega))
        replace hR := (RS.below hR hb).more hb.size
        replace bx := bx.below hb bx.lt
        replace bt := bt.below hb bt.lt
        replace b2 := b2.below hb b2.lt
        replace xx := xx.below hb xx.lt
        replace hX := (RS.below hX hb).more hb.size
        replace r1 := r1.below hb r1.lt
        replace r2 := r2.below hb r2.lt
        replace r3 := r3.below hb r3.lt
        replace hv1 := (RS.below hv1 hb).more hb.size
        replace hv2 := (RS.below hv2 hb).more hb.size
        replace hv3 := (RS.below hv3 hb).more hb.size
        replace hv4 := (RS.below hv4 hb).more hb.size
        replace r4 := r4.below hb r4.lt
        clear hb
        go_wp2_with fail
        exact bodyPost_ret (v := .bool true) (by simp [results, Try.results9, go_sem]) rfl ⟨rfl, by first | exact hC | (rw [hn0]; exact hC) | (with_reducible rw [hn0]; exact bel_of) | exact bel_of⟩
end Go.Proofs.Ytkljdbgkhghiaaa

namespace Go.Proofs.Ytkljdbgkhghiaaa.keenNarrower
open Go.ChangeShapes Go.WideShapes Go.ChangeAt Go.RowKit Go.Deep

set_option maxRecDepth 100000 in
theorem lifted (os : Os) (started : os.Started) (H : Type) (enc : TypeId × Value → H) :
    ReturnsInHanded {} Try.checked os 9 .any (Rows.keenNarrowerSpec.pre6 enc Try.prog Try.f9 Rows.keenNarrowerRow.domain false) (Rows.keenNarrowerSpec.post enc Try.prog Try.f9 false true false false) := by
  refine returnsInHanded_of_change (C := Try.checked) own started (by kernel_rfl) Try.func9
    (ChangeSpec.witness6 (enc := enc) (C := Try.checked) false ⟨#[], #[.agg #[.int .i64 0, .slice none 0 0], .agg #[.int .i64 0, .int .i64 0, .int .i64 0, .int .i64 0], .agg #[.int .u8 0, .int .u8 0]], []⟩ 8 (by kernel_rfl) (by kernel_rfl) (by kernel_rfl) (by kernel_rfl)) ?_
  intro W base args ds gs before hval0 hW hcnd _
  have hval : ∀ (j : Nat) t v, Try.f9.params[j]? = some t → args[j]? = some v → Value.okWide Try.prog W .any base t v := hval0
  have hW2 : DataW.Whole enc Try.prog Try.f9.params.toList Rows.keenNarrowerSpec.vars false W args.toList ds gs before := hW
  obtain ⟨p, q, hA0, hV, rfl, hfz, hnd⟩ := hW
  have hA : DataW.TrodAll enc Try.prog W 0 (fun _ => true) true Try.f9.params.toList args.toList ds p := hA0
  rw [Try.params9] at hA hval
  obtain ⟨v0, vs0, d0, ds0, p0, q0, hargs, rfl, rfl, h0, r0⟩ := trodAll_cons hA
  obtain ⟨v1, vs1, d1, ds1, p1, q1, rfl, rfl, rfl, h1, r1⟩ := trodAll_cons r0
  obtain ⟨v2, vs2, d2, ds2, p2, q2, rfl, rfl, rfl, h2, r2⟩ := trodAll_cons r1
  obtain ⟨rfl, rfl, rfl⟩ := trodAll_nil r2
  obtain rfl : args = #[v0, v1, v2] := by cases args; simp_all
  obtain ⟨rfl, rfl⟩ := trodVars_none hV
  obtain ⟨E0, s0, l0, rfl, g0, k0, n0, m0⟩ := open_book (hval 0 24 v0 rfl rfl) h0
  obtain ⟨l1, rfl, g1⟩ := open_kt (hval 1 56 v1 rfl rfl) h1
  obtain ⟨x2, y2, rfl, g2⟩ := open_a2 (hval 2 64 v2 rfl rfl) h2
  refine (keenNarrower_any (E := E0) (ts := l0) (v := s0) (h := g0) (hE := k0) (hts := n0) (hl := m0) (t := l1) (ht := g1) (x2 := x2) (y2 := y2) (h2 := g2) (w := W)).mono fun e W' ⟨he, hg⟩ => ?_
  subst he
  exact ⟨_, rfl, law_done hW2 rfl rfl rfl (by rw [Try.params9]; decide +kernel) hg⟩

theorem over : Rows.keenNarrowerRow.holds Try.pinned (OpenSpec.ofChange Rows.keenNarrowerSpec) :=
  OpenClaim.holds_of_wide 9 Try.f9 rfl rfl rfl rfl rfl rfl rfl ⟨rfl, rfl, rfl, rfl, rfl⟩ rfl rfl rfl rfl rfl (by kernel_rfl) Try.func9 (by kernel_rfl)
    (of_decide_eq_true (by kernel_rfl)) (by unfold Func.isWrapper; first | (rw [if_pos (by decide +kernel)]; kernel_rfl) | (rw [if_neg (by decide +kernel)]; exact ⟨rfl, rfl⟩))
    (fun os started H enc _ => lifted os started H enc)

theorem proved : Rows.KeenNarrowerSaid :=
  over
end Go.Proofs.Ytkljdbgkhghiaaa.keenNarrower
namespace Go.Proofs.Ytkljdbgkhghiaaa
theorem keenNarrower_proved : Rows.KeenNarrowerSaid := keenNarrower.proved
#print axioms keenNarrower_proved
end Go.Proofs.Ytkljdbgkhghiaaa
