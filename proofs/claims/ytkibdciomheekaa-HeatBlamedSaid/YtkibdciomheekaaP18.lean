/- The tree of a works for a measured blade, or what stands against it. A map of numbers by places of the tree, as a function. Which hardnesses before a step can be had, and lead to what was measured. -/
import Derived.Test.YtkibdciomheekaaP17
import Derived.Test.YtkibdciomheekaaP16
import Derived.MapKept
set_option linter.all false
set_option linter.unnecessarySimpa false
set_option linter.unusedSimpArgs false
set_option linter.unusedVariables false
set_option linter.unusedSectionVars false

set_option linter.all false
namespace Go.Proofs.Ytkibdciomheekaa
open Go.RowKit Hp

/-- The tree, or the error. -/
def MadePost (bars : List Rg) (ss : List Stp) (m : Rg) (vb vs : Value) (w : World) (e : Ending) (w' : World) : Prop :=
  ∃ p, e = .returned (.tuple #[.pointer p, .int .i64 (measE bars ss m)]) ∧ (measE bars ss m = 0 → OkV bars ss ∧ OkR m ∧ ∃ g, p = some ⟨g, 0, none⟩ ∧ TreeM w' g vb vs m bars ss) ∧ Below w.heap.size w w'
theorem MadePost.no {bars : List Rg} {ss : List Stp} {m : Rg} {vb vs : Value} {w w' : World} {e : Int} (h : measE bars ss m = e) (h0 : e ≠ 0) (hb : Below w.heap.size w w') : MadePost bars ss m vb vs w (.returned (.tuple #[.pointer none, .int .i64 e])) w' :=
  ⟨_, by rw [h], fun q => (h0 (h.symm.trans q)).elim, hb⟩
theorem MadePost.yes {bars : List Rg} {ss : List Stp} {m : Rg} {vb vs : Value} {w w' : World} {g : Nat} (h : measE bars ss m = 0) (hV : OkV bars ss) (hm : OkR m) (hT : TreeM w' g vb vs m bars ss) (hb : Below w.heap.size w w') : MadePost bars ss m vb vs w (.returned (.tuple #[.pointer (some ⟨g, 0, none⟩), .int .i64 0])) w' :=
  ⟨_, by rw [h], fun _ => ⟨hV, hm, _, rfl, hT⟩, hb⟩

set_option maxHeartbeats 8000000 in
set_option maxRecDepth 100000 in
theorem madeT_any (bars : List Rg) (ss : List Stp) (m : Rg) (vb vs : Value) (w : World) (hf : Fit bars ss) (hB : RR w w.heap.size vb bars) (hS : RP w w.heap.size vs ss) :
    Calls Try.prog 69 #[.agg #[vb, vs], rV m] w (MadePost bars ss m vb vs w) := by
  have HF := Lib.hid hf
  clear hf
  obtain ⟨Ab, cb, rfl⟩ := hB.slice
  obtain ⟨As, cs, rfl⟩ := hS.slice
  obtain ⟨mlo, mhi⟩ := m
  unfold rV
  obtain ⟨n0, hn0⟩ : ∃ n, w.heap.size = n := ⟨_, rfl⟩
  have hC : Below n0 w w := Below.refl _ _
  go_enter Try.func69, Try.ntmps69
  go_upto_region 1 with fail
  have hqbx : n0 ≤ n0 := by have := hC.size; omega
  have bx : BK (w.alloc (.cells #[.slice Ab bars.length cb, .slice As ss.length cs] 25)) (n0) #[.slice Ab bars.length cb, .slice As ss.length cs] 25 := BK.new' _ _ _ (n0) hn0
  have hsbx : (w.alloc (.cells #[.slice Ab bars.length cb, .slice As ss.length cs] 25)).heap.size = n0 + 1 := by simp [hn0]
  replace hC : Below n0 w (w.alloc (.cells #[.slice Ab bars.length cb, .slice As ss.length cs] 25)) := Below.alloc hC (by have := hC.size; omega) _
  replace hB := (RS.below hB (w' := (w.alloc (.cells #[.slice Ab bars.length cb, .slice As ss.length cs] 25))) (Below.alloc (Below.refl _ _) (Nat.le_refl _) _)).more (B' := (w.alloc (.cells #[.slice Ab bars.length cb, .slice As ss.length cs] 25)).heap.size) (by simp)
  replace hS := (RP.below hS (w' := (w.alloc (.cells #[.slice Ab bars.length cb, .slice As ss.length cs] 25))) (Below.alloc (Below.refl _ _) (Nat.le_refl _) _)).more (B' := (w.alloc (.cells #[.slice Ab bars.length cb, .slice As ss.length cs] 25)).heap.size) (by simp)
  generalize (w.alloc (.cells #[.slice Ab bars.length cb, .slice As ss.length cs] 25)) = Wbx at *
  have hqmx : n0 ≤ n0 + 1 := by have := hC.size; omega
  have mx : BK (Wbx.alloc (.cells #[.int .i64 mlo, .int .i64 mhi] 33)) (n0 + 1) #[.int .i64 mlo, .int .i64 mhi] 33 := BK.new' _ _ _ (n0 + 1) hsbx
  have hsmx : (Wbx.alloc (.cells #[.int .i64 mlo, .int .i64 mhi] 33)).heap.size = n0 + 1 + 1 := by simp [hsbx]
  replace hC : Below n0 w (Wbx.alloc (.cells #[.int .i64 mlo, .int .i64 mhi] 33)) := Below.alloc hC (by have := hC.size; omega) _
  replace hB := (RS.below hB (w' := (Wbx.alloc (.cells #[.int .i64 mlo, .int .i64 mhi] 33))) (Below.alloc (Below.refl _ _) (Nat.le_refl _) _)).more (B' := (Wbx.alloc (.cells #[.int .i64 mlo, .int .i64 mhi] 33)).heap.size) (by simp)
  replace hS := (RP.below hS (w' := (Wbx.alloc (.cells #[.int .i64 mlo, .int .i64 mhi] 33))) (Below.alloc (Below.refl _ _) (Nat.le_refl _) _)).more (B' := (Wbx.alloc (.cells #[.int .i64 mlo, .int .i64 mhi] 33)).heap.size) (by simp)
  replace bx := bx.alloc (.cells #[.int .i64 mlo, .int .i64 mhi] 33)
  generalize (Wbx.alloc (.cells #[.int .i64 mlo, .int .i64 mhi] 33)) = Wmx at *
  clear hsbx
  have lbx := bx.lt
  have bxc0 := bx.cell 0
  have bxc1 := bx.cell 1
  simp at bxc0 bxc1
  go_wp2_with fail
  clear lbx bxc0 bxc1
  clear hsmx
  refine (checkWorks_any bars ss _ _ _ HF.out hB hS).mono ?_
  rintro e w1 ⟨rfl, hb⟩
  replace hC : Below n0 w w1 := hC.trans (hb.mono (by have := hC.size; omega))
  replace hB := (RS.below hB hb).more hb.size
  replace hS := (RP.below hS hb).more hb.size
  replace bx := bx.below hb bx.lt
  replace mx := mx.below hb mx.lt
  clear hb
  obtain ⟨e, he⟩ : ∃ e, worksE bars ss = e := ⟨_, rfl⟩
  rw [he]
  by_cases e0 : e = 0
  case neg =>
    have HE := Lib.hid (show measE bars ss ⟨mlo, mhi⟩ = e by unfold measE; rw [he, if_pos e0])
    have E0 := Lib.hid e0
    have b1 : (e != 0) = true := by simp [e0]
    clear he e0
    go_wp2_with fail
    go_ret2
    exact MadePost.no HE.out E0.out (by (try rw [hn0]); exact hC)
  subst e0
  have HE0 := Lib.hid he
  clear he
  have lmx := mx.lt
  have mxc0 := mx.cell 0
  have mxc1 := mx.cell 1
  simp at mxc0 mxc1
  go_wp2_with fail
  clear lmx mxc0 mxc1
  refine (isHard_any ⟨mlo, mhi⟩ _).mono ?_
  rintro e w2 ⟨rfl, hb⟩
  replace hC : Below n0 w w2 := hC.trans (hb.mono (by have := hC.size; omega))
  replace hB := (RS.below hB hb).more hb.size
  replace hS := (RP.below hS hb).more hb.size
  replace bx := bx.below hb bx.lt
  replace mx := mx.below hb mx.lt
  clear hb
  obtain ⟨q, hq⟩ : ∃ q, hard ⟨mlo, mhi⟩ = q := ⟨_, rfl⟩
  rw [hq]
  have HE := Lib.hid (show measE bars ss ⟨mlo, mhi⟩ = if q = true then 0 else 2 by unfold measE; rw [HE0.out, hq, if_neg (by simp)])
  have HQ := Lib.hid hq
  clear hq
  cases q
  case false =>
    go_wp2_with fail
    go_ret2
    exact MadePost.no HE.out (by decide) (by (try rw [hn0]); exact hC)
  have HV := Lib.hid (okV_of HE0.out)
  have HM := Lib.hid (show OkR ⟨mlo, mhi⟩ from hard_iff.1 HQ.out)
  have lbx := bx.lt
  have bxc0 := bx.cell 0
  have bxc1 := bx.cell 1
  simp at bxc0 bxc1
  have lmx := mx.lt
  have mxc0 := mx.cell 0
  have mxc1 := mx.cell 1
  simp at mxc0 mxc1
  go_wp2_with fail
  clear lbx bxc0 bxc1
  clear lmx mxc0 mxc1
  refine (newTree_any bars ss ⟨mlo, mhi⟩ _ _ _ HV.out HM.out hB hS).mono ?_
  rintro e w3 ⟨g, rfl, hT, hb⟩
  replace hC : Below n0 w w3 := hC.trans (hb.mono (by have := hC.size; omega))
  replace hB := (RS.below hB hb).more hb.size
  replace hS := (RP.below hS hb).more hb.size
  replace bx := bx.below hb bx.lt
  replace mx := mx.below hb mx.lt
  clear hb
  have HT := Lib.hid hT
  clear hT
  go_wp2_with fail
  go_ret2
  exact MadePost.yes HE.out HV.out HM.out HT.out (by (try rw [hn0]); exact hC)
end Go.Proofs.Ytkibdciomheekaa

set_option linter.all false
namespace Go.Proofs.Ytkibdciomheekaa
open Go.RowKit Hp

def plV (a c : Int) : Value := .agg #[.int .i64 a, .int .i64 c]
structure En where
  a : Int
  c : Int
  v : Int
  born : Nat
def enE (e : En) : MapEntry := ⟨plV e.a e.c, .int .i64 e.v, e.born⟩
theorem place_under : Try.prog.underlying 118 = some (.struct (Try.prog.fieldsOf 118)) := by kernel_rfl
theorem place_held : Try.prog.stoodInHeld 118 = false := by kernel_rfl
theorem int_under : Try.prog.underlying 3 = some (.int .i64) := by kernel_rfl
theorem map_under : Try.prog.underlying 115 = some (.map 118 3) := by kernel_rfl
theorem int_zeroV (W : World) : (zeroValue 3).run Try.prog W = .ok (.int .i64 0) W := by simp [zeroValue, go_sem, Try.t3]
theorem place_fields : Try.prog.fieldsOf 118 = #[{ name := "step", type := 3, offset := 0, embedded := false, tag := "", pkgPath := "bolster/heat", byteOffset := 0 }, { name := "way", type := 3, offset := 1, embedded := false, tag := "", pkgPath := "bolster/heat", byteOffset := 8 }] := by
  unfold Program.fieldsOf
  rw [Try.underlying118]
theorem eq_place (a c a' c' : Int) (W : World) : (Op.equal 118 (plV a c) (plV a' c')).run Try.prog W = .ok (decide (a = a' ∧ c = c')) W := by
  unfold Op.equal plV
  rw [show Op.maxDepth = 9999 + 1 from rfl, run_equalIn_struct W 9999 _ _ _ place_under place_held, place_fields]
  have h1 := fun x y => run_equalIn_int W 9998 3 .i64 .i64 x y int_under
  simp only [Op.eqFields, part, Try.isAgg3, Sem.run_bind, Sem.run_pure, Sem.run_ite, Result.andThen_ok, h1, ne_eq, String.reduceEq, not_false_eq_true, if_true, List.getElem?_toArray, List.getElem?_cons_zero, List.getElem?_cons_succ, Bool.false_eq_true, if_false]
  by_cases h2 : a = a'
  · by_cases h3 : c = c' <;> simp [h2, h3]
  · simp [h2]
theorem check_place (b : Bool) (a c : Int) (W : World) : (Instr.checkKey b 10000 118 (plV a c)).run Try.prog W = .ok () W := by
  unfold plV Instr.checkKey
  rw [Sem.run_bind, Try.runUnderlying118]
  have h1 : ∀ (v : Value) (W : World), (Instr.checkKey b 9999 3 v).run Try.prog W = .ok () W := fun v W => by
    unfold Instr.checkKey
    rw [Sem.run_bind, Try.runUnderlying3]
    simp
  simp [part, Try.isAgg3, h1]
/-- Where a place stands, and its number. -/
def fnd (a c : Int) : List En → Nat → Option (Nat × Int)
  | [], _ => none
  | e :: l, i => if a = e.a ∧ c = e.c then some (i, e.v) else fnd a c l (i + 1)
theorem fnd_shift (a c : Int) : ∀ (l : List En) (i j : Nat), fnd a c l (i + j) = (fnd a c l i).map fun p => (p.1 + j, p.2)
  | [], _, _ => rfl
  | e :: l, i, j => by
    unfold fnd
    split
    · rfl
    · rw [show i + j + 1 = i + 1 + j by omega, fnd_shift a c l]
def gtE (l : List En) (a c : Int) : Option Int := (fnd a c l 0).map (·.2)
theorem gtE_nil (a c : Int) : gtE [] a c = none := rfl
theorem gtE_cons (e : En) (l : List En) (a c : Int) : gtE (e :: l) a c = if a = e.a ∧ c = e.c then some e.v else gtE l a c := by
  unfold gtE
  rw [fnd]
  split
  · rfl
  · rw [show 0 + 1 = 0 + 1 from rfl, fnd_shift a c l 0 1, Option.map_map]; rfl
theorem run_asking (a c : Int) (W : World) : ∀ (l : List En) (i : Nat), (Instr.findAsking 118 (plV a c) (l.map enE) i).run Try.prog W = .ok ((fnd a c l i).map fun p => (p.1, .int .i64 p.2)) W
  | [], i => by simp [Instr.findAsking, fnd]
  | e :: l, i => by
    rw [List.map_cons, Instr.findAsking, Sem.run_bind]
    show ((Op.equal 118 (plV a c) (plV e.a e.c)).run Try.prog W).andThen _ = _
    rw [eq_place, Result.andThen_ok, fnd]
    by_cases h : a = e.a ∧ c = e.c
    · rw [if_pos h]; simp [h, enE]
    · rw [if_neg h, ← run_asking a c W l (i + 1)]; simp [h]
theorem run_find (a c : Int) (W : World) (l : List En) : (Instr.findKey 118 (plV a c) (l.map enE)).run Try.prog W = .ok ((fnd a c l 0).map fun p => (p.1, .int .i64 p.2)) W := by
  unfold Instr.findKey
  rw [Sem.run_bind, Try.runUnderlying118, Result.andThen_ok]
  cases l with
  | nil => simp [Instr.findNow, fnd]
  | cons e l =>
    rw [← run_asking a c W (e :: l) 0]
    simp [Instr.findNow, Instr.sameNow, plV]
theorem fnd_some {a c : Int} : ∀ {l : List En} {i j : Nat} {v : Int}, fnd a c l i = some (j, v) → ∃ k, j = i + k ∧ ∃ e, l[k]? = some e ∧ e.a = a ∧ e.c = c ∧ e.v = v
  | [], _, _, _, h => by cases h
  | e :: l, i, j, v, h => by
    unfold fnd at h
    split at h
    · rename_i h1
      injection h with h
      injection h with h2 h3
      exact ⟨0, by omega, e, rfl, h1.1.symm, h1.2.symm, h3⟩
    · obtain ⟨k, h1, e', h2, h3⟩ := fnd_some h
      exact ⟨k + 1, by omega, e', by simpa using h2, h3⟩
/-- Places that stand apart. -/
def Apart (l : List En) : Prop := l.Pairwise fun x y => ¬ (x.a = y.a ∧ x.c = y.c)
theorem gtE_none {a c : Int} : ∀ {l : List En}, gtE l a c = none ↔ ∀ e ∈ l, ¬ (a = e.a ∧ c = e.c)
  | [] => by simp [gtE_nil]
  | e :: l => by
    rw [gtE_cons]
    by_cases h : a = e.a ∧ c = e.c
    · rw [if_pos h]; simp [h]
    · rw [if_neg h, gtE_none]
      constructor
      · intro h2 e' he'
        rcases List.mem_cons.1 he' with rfl | he'
        · exact h
        · exact h2 e' he'
      · intro h2 e' he'
        exact h2 e' (List.mem_cons_of_mem _ he')
theorem gtE_app (l : List En) (e : En) (a c : Int) : gtE (l ++ [e]) a c = (gtE l a c).or (if a = e.a ∧ c = e.c then some e.v else none) := by
  induction l with
  | nil => rw [List.nil_append, gtE_cons, gtE_nil]; simp [gtE_nil]
  | cons x l ih =>
    rw [List.cons_append, gtE_cons, gtE_cons, ih]
    by_cases h : a = x.a ∧ c = x.c
    · rw [if_pos h, if_pos h]; rfl
    · rw [if_neg h, if_neg h]
theorem gtE_set : ∀ {l : List En} {k : Nat} {e : En} (_ : l[k]? = some e) (_ : Apart l) (x a c : Int), gtE (l.set k { e with v := x }) a c = if a = e.a ∧ c = e.c then some x else gtE l a c
  | [], _, _, h, _, _, _, _ => by simp at h
  | y :: l, 0, e, h, _, x, a, c => by
    simp only [List.getElem?_cons_zero, Option.some.injEq] at h
    subst h
    rw [List.set_cons_zero, gtE_cons, gtE_cons]
    split <;> rfl
  | y :: l, k + 1, e, h, ha, x, a, c => by
    have h' : l[k]? = some e := by simpa using h
    have ha' := List.pairwise_cons.1 ha
    rw [List.set_cons_succ, gtE_cons, gtE_cons, gtE_set h' ha'.2]
    by_cases h1 : a = y.a ∧ c = y.c
    · rw [if_pos h1, if_pos h1, if_neg]
      rintro ⟨h2, h3⟩
      exact ha'.1 e (List.mem_of_getElem? h') ⟨h1.1 ▸ h2, h1.2 ▸ h3⟩
    · rw [if_neg h1, if_neg h1]
theorem gtE_erase : ∀ {l : List En} {k : Nat} {e : En} (_ : l[k]? = some e) (_ : Apart l) (a c : Int), gtE (l.eraseIdx k) a c = if a = e.a ∧ c = e.c then none else gtE l a c
  | [], _, _, h, _, _, _ => by simp at h
  | y :: l, 0, e, h, ha, a, c => by
    simp only [List.getElem?_cons_zero, Option.some.injEq] at h
    subst h
    have ha' := List.pairwise_cons.1 ha
    rw [List.eraseIdx_cons_zero, gtE_cons]
    split
    · rename_i h1
      exact gtE_none.2 fun e he hq => ha'.1 e he ⟨h1.1 ▸ hq.1, h1.2 ▸ hq.2⟩
    · rfl
  | y :: l, k + 1, e, h, ha, a, c => by
    have h' : l[k]? = some e := by simpa using h
    have ha' := List.pairwise_cons.1 ha
    rw [List.eraseIdx_cons_succ, gtE_cons, gtE_cons, gtE_erase h' ha'.2]
    by_cases h1 : a = y.a ∧ c = y.c
    · rw [if_pos h1, if_pos h1, if_neg]
      rintro ⟨h2, h3⟩
      exact ha'.1 e (List.mem_of_getElem? h') ⟨h1.1 ▸ h2, h1.2 ▸ h3⟩
    · rw [if_neg h1, if_neg h1]
/-- The map in block b holds the numbers f of places. -/
def MPl (W : World) (b : Nat) (f : Int → Int → Option Int) : Prop :=
  ∃ (l : List En) (clock : Nat), W.heap[b]? = some (.map (l.map enE).toArray clock) ∧ Apart l ∧ (l.Pairwise fun x y => x.born ≠ y.born) ∧ (∀ e ∈ l, e.born < clock) ∧ ∀ a c, gtE l a c = f a c
def updM (f : Int → Int → Option Int) (a c : Int) (x : Option Int) : Int → Int → Option Int := fun y z => if y = a ∧ z = c then x else f y z
section
variable {W W' : World} {b : Nat} {f : Int → Int → Option Int}
theorem MPl.made (W : World) : MPl (W.alloc (.map #[] 0)) W.heap.size fun _ _ => none :=
  ⟨[], 0, World.alloc_heap_new W _, List.Pairwise.nil, List.Pairwise.nil, fun e he => (by cases he), fun a c => rfl⟩
theorem MPl.heap (h : MPl W b f) (hb : W'.heap[b]? = W.heap[b]?) : MPl W' b f := by
  obtain ⟨l, clock, h1, h2⟩ := h
  exact ⟨l, clock, hb.trans h1, h2⟩
theorem MPl.lt (h : MPl W b f) : b < W.heap.size := by
  obtain ⟨l, clock, h1, h2⟩ := h
  exact (Array.getElem?_eq_some_iff.1 h1).1
theorem MPl.below {B : Nat} (h : MPl W b f) (hb : Below B W W') (hg : b < B) : MPl W' b f := h.heap (hb.block b hg)
theorem MPl.adm {B : Nat} (h : MPl W b f) (ha : Adm B W W') (hB : b < B) : MPl W' b f := by
  obtain ⟨l, clock, h1, h2⟩ := h
  exact ⟨l, clock, ha.obj h1 hB, h2⟩
/-- A look at a place. -/
theorem MPl.look (h : MPl W b f) (a c : Int) : (Instr.lookup 115 (.map (some b)) (plV a c) false).run Try.prog W = .ok (.int .i64 ((f a c).getD 0)) W := by
  obtain ⟨l, clock, h1, _, _, _, h2⟩ := h
  unfold Instr.lookup
  rw [Sem.run_bind, run_underlying map_under, Result.andThen_ok]
  simp only [Sem.run_bind, Sem.run_pure, Result.andThen_ok, MapKept.run_getObj_map h1, check_place, run_find, ← h2 a c]
  unfold gtE
  cases fnd a c l 0 with
  | none => simp [int_zeroV]
  | some p => simp
theorem MPl.looks (h : MPl W b f) (a c : Int) : (Instr.lookup 115 (.map (some b)) (plV a c) true).run Try.prog W = .ok (.tuple #[.int .i64 ((f a c).getD 0), .bool (f a c).isSome]) W := by
  obtain ⟨l, clock, h1, _, _, _, h2⟩ := h
  unfold Instr.lookup
  rw [Sem.run_bind, run_underlying map_under, Result.andThen_ok]
  simp only [Sem.run_bind, Sem.run_pure, Result.andThen_ok, MapKept.run_getObj_map h1, check_place, run_find, ← h2 a c]
  unfold gtE
  cases fnd a c l 0 with
  | none => simp [int_zeroV]
  | some p => simp
theorem setHeap_grown (W : World) (b : Nat) (o : Obj) : W.grownBy { W with heap := W.heap.setIfInBounds b o } (some b) :=
  ⟨rfl, rfl, rfl, by simp, fun k hk hr => by
    show (W.heap.setIfInBounds b o)[k]? = _
    rw [Array.getElem?_setIfInBounds_ne (fun e => hr (by rw [e]))]⟩
theorem setHeap_at {b : Nat} {o' : Obj} (h : W.heap[b]? = some o') (o : Obj) : ({ W with heap := W.heap.setIfInBounds b o } : World).heap[b]? = some o := by
  show (W.heap.setIfInBounds b o)[b]? = _
  rw [Array.getElem?_setIfInBounds_self_of_lt (Array.getElem?_eq_some_iff.1 h).1]
theorem same_place (a c : Int) : Instr.sameBits 10000 (plV a c) (plV a c) = true := by
  simp [Instr.sameBits, plV]
theorem stays_place (a c : Int) (W : World) : (Instr.keyThatStays (plV a c) (plV a c)).run Try.prog W = .ok (plV a c) W := by
  unfold Instr.keyThatStays
  rw [same_place]
  simp
theorem map_modify {l : List En} {k : Nat} {e : En} (h : l[k]? = some e) (x : Int) : (l.map enE).toArray.modify k (fun q => { q with key := plV e.a e.c, val := .int .i64 x }) = ((l.set k { e with v := x }).map enE).toArray := by
  apply Array.ext_getElem?
  intro i
  rw [Array.getElem?_modify, List.getElem?_toArray, List.getElem?_toArray, List.getElem?_map, List.getElem?_map]
  by_cases hi : k = i
  · subst hi
    have hk := (List.getElem?_eq_some_iff.1 h).1
    rw [if_pos rfl, h, List.getElem?_set_self hk]
    rfl
  · rw [if_neg hi, List.getElem?_set_ne hi]
theorem apart_set {l : List En} {k : Nat} {e : En} (h : l[k]? = some e) (ha : Apart l) (x : Int) : Apart (l.set k { e with v := x }) := by
  have : (l.set k { e with v := x }).map (fun e => (e.a, e.c)) = l.map fun e => (e.a, e.c) := by
    apply List.ext_getElem?
    intro i
    rw [List.getElem?_map, List.getElem?_map]
    by_cases hi : k = i
    · subst hi
      rw [h, List.getElem?_set_self (List.getElem?_eq_some_iff.1 h).1]; rfl
    · rw [List.getElem?_set_ne hi]
  have q : ∀ l : List En, Apart l ↔ (l.map fun e => (e.a, e.c)).Pairwise fun x y => ¬ (x.1 = y.1 ∧ x.2 = y.2) := fun l => by rw [List.pairwise_map]; rfl
  rw [q, this, ← q]; exact ha
theorem born_set {l : List En} {k : Nat} {e : En} (h : l[k]? = some e) (x : Int) : (l.set k { e with v := x }).map En.born = l.map En.born := by
  apply List.ext_getElem?
  intro i
  rw [List.getElem?_map, List.getElem?_map]
  by_cases hi : k = i
  · subst hi
    rw [h, List.getElem?_set_self (List.getElem?_eq_some_iff.1 h).1]; rfl
  · rw [List.getElem?_set_ne hi]
theorem born_pw (l : List En) : (l.Pairwise fun x y => x.born ≠ y.born) ↔ (l.map En.born).Pairwise (· ≠ ·) := by rw [List.pairwise_map]
theorem born_all (l : List En) (n : Nat) : (∀ e ∈ l, e.born < n) ↔ ∀ x ∈ l.map En.born, x < n := by simp
theorem fnd_none {l : List En} {a c : Int} (h : fnd a c l 0 = none) : ∀ e ∈ l, ¬ (a = e.a ∧ c = e.c) := gtE_none.1 (by unfold gtE; rw [h]; rfl)
theorem mpl_set {l : List En} {clock k : Nat} {e : En} {x : Int} (h1 : W'.heap[b]? = some (.map ((l.set k { e with v := x }).map enE).toArray clock)) (hk : l[k]? = some e) (h2 : Apart l) (h3 : l.Pairwise fun x y => x.born ≠ y.born) (h4 : ∀ e ∈ l, e.born < clock) (h5 : ∀ a c, gtE l a c = f a c) : MPl W' b (updM f e.a e.c (some x)) :=
  ⟨_, clock, h1, apart_set hk h2 x, by rw [born_pw, born_set hk, ← born_pw]; exact h3, by rw [born_all, born_set hk, ← born_all]; exact h4, fun a c => by rw [gtE_set hk h2, h5]; rfl⟩
theorem mpl_push {l : List En} {clock : Nat} {a c x : Int} (h1 : W'.heap[b]? = some (.map ((l ++ [(⟨a, c, x, clock⟩ : En)]).map enE).toArray (clock + 1))) (hn : ∀ e ∈ l, ¬ (a = e.a ∧ c = e.c)) (h2 : Apart l) (h3 : l.Pairwise fun x y => x.born ≠ y.born) (h4 : ∀ e ∈ l, e.born < clock) (h5 : ∀ a c, gtE l a c = f a c) : MPl W' b (updM f a c (some x)) := by
  refine ⟨_, _, h1, ?_, ?_, ?_, fun a' c' => ?_⟩
  · refine List.pairwise_append.2 ⟨h2, List.pairwise_singleton _ _, fun y hy z hz => ?_⟩
    obtain rfl : z = _ := by simpa using hz
    rintro ⟨q1, q2⟩
    exact hn y hy ⟨q1.symm, q2.symm⟩
  · refine List.pairwise_append.2 ⟨h3, List.pairwise_singleton _ _, fun y hy z hz => ?_⟩
    obtain rfl : z = _ := by simpa using hz
    have := h4 y hy
    show y.born ≠ clock
    omega
  · intro e he
    rcases List.mem_append.1 he with he | he
    · have := h4 e he; omega
    · obtain rfl : e = _ := by simpa using he
      show clock < clock + 1
      omega
  · rw [gtE_app, h5]
    unfold updM
    by_cases hq : a' = a ∧ c' = c
    · have hnn : f a' c' = none := by rw [← h5, gtE_none, hq.1, hq.2]; exact hn
      rw [if_pos hq, if_pos hq, hnn]; rfl
    · rw [if_neg hq, if_neg hq]
      cases f a' c' <;> rfl
/-- A number is stored at a place. -/
theorem MPl.store (h : MPl W b f) (a c x : Int) : ∃ W', (Instr.mapUpdate 115 (.map (some b)) (plV a c) (.int .i64 x)).run Try.prog W = .ok () W' ∧ MPl W' b (updM f a c (some x)) ∧ W.grownBy W' (some b) ∧ W'.heap.size = W.heap.size := by
  obtain ⟨l, clock, h1, h2, h3, h4, h5⟩ := h
  unfold Instr.mapUpdate
  rw [Sem.run_bind, run_underlying map_under, Result.andThen_ok]
  simp only [Sem.run_bind, Sem.run_pure, Result.andThen_ok, MapKept.run_getObj_map h1, check_place, run_find]
  cases hf : fnd a c l 0 with
  | none =>
    simp only [Option.map_none]
    rw [MapKept.run_setObj_map _ h1]
    refine ⟨_, rfl, mpl_push (l := l) (clock := clock) ?_ (fnd_none hf) h2 h3 h4 h5, setHeap_grown _ _ _, by simp⟩
    refine (setHeap_at h1 _).trans ?_
    simp [enE]
  | some p =>
    obtain ⟨i, v⟩ := p
    obtain ⟨k, hk0, e, hk, rfl, rfl, rfl⟩ := fnd_some hf
    obtain rfl : i = k := by omega
    have hke : ((l.map enE).toArray[i]?.map (·.key)).getD (plV e.a e.c) = plV e.a e.c := by
      rw [List.getElem?_toArray, List.getElem?_map, hk]; rfl
    simp only [Option.map_some, hke, Sem.run_bind, stays_place, Result.andThen_ok]
    rw [MapKept.run_setObj_map _ h1]
    refine ⟨_, rfl, mpl_set (l := l) (clock := clock) (k := i) ?_ hk h2 h3 h4 h5, setHeap_grown _ _ _, by simp⟩
    refine (setHeap_at h1 _).trans ?_
    rw [map_modify hk]
/-- A place is struck. -/
theorem MPl.drop (h : MPl W b f) (a c : Int) (ty : TypeId) : ∃ W', (Builtin.delete_ #[115, 118] ty #[.map (some b), plV a c]).run Try.prog W = .ok (.tuple #[]) W' ∧ MPl W' b (updM f a c none) ∧ W.grownBy W' (some b) ∧ W'.heap.size = W.heap.size := by
  obtain ⟨l, clock, h1, h2, h3, h4, h5⟩ := h
  unfold Builtin.delete_
  simp only [List.getElem?_toArray, List.getElem?_cons_zero, List.getElem?_cons_succ]
  rw [Sem.run_bind, run_underlying map_under, Result.andThen_ok]
  simp only [Sem.run_bind, Sem.run_pure, Result.andThen_ok, MapKept.run_getObj_map h1, check_place, run_find]
  cases hf : fnd a c l 0 with
  | none =>
    simp only [Option.map_none]
    rw [Sem.run_bind, MapKept.run_setObj_map _ h1, Result.andThen_ok]
    refine ⟨_, rfl, ⟨l, clock, setHeap_at h1 _, h2, h3, h4, fun a' c' => ?_⟩, setHeap_grown _ _ _, by simp⟩
    unfold updM
    split
    · rename_i hq
      rw [hq.1, hq.2]
      exact gtE_none.2 (fnd_none hf)
    · exact h5 _ _
  | some p =>
    obtain ⟨i, v⟩ := p
    obtain ⟨k, hk0, e, hk, rfl, rfl, rfl⟩ := fnd_some hf
    obtain rfl : i = k := by omega
    have hil := (List.getElem?_eq_some_iff.1 hk).1
    simp only [Option.map_some]
    rw [Sem.run_bind, MapKept.run_setObj_map _ h1, Result.andThen_ok]
    refine ⟨_, rfl, ⟨l.eraseIdx i, clock, ?_, h2.sublist (List.eraseIdx_sublist _ _), h3.sublist (List.eraseIdx_sublist _ _), fun e he => h4 e (List.mem_of_mem_eraseIdx he), fun a' c' => ?_⟩, setHeap_grown _ _ _, by simp⟩
    · refine (setHeap_at h1 _).trans ?_
      congr 2
      rw [Array.eraseIdxIfInBounds_eq, dif_pos (by simpa using hil)]
      apply Array.toList_inj.1
      simp [ChangeMaps.map_eraseIdx]
    · rw [gtE_erase hk h2, h5]; rfl
theorem find_born : ∀ {l : List En} {k : Nat} {e : En} (_ : l[k]? = some e) (_ : l.Pairwise fun x y => x.born ≠ y.born), (l.map enE).findIdx? (fun q => (q.born : Int) == (e.born : Int)) = some k
  | [], _, _, h, _ => by simp at h
  | y :: l, 0, e, h, _ => by
    simp only [List.getElem?_cons_zero, Option.some.injEq] at h
    subst h
    rw [List.map_cons, List.findIdx?_cons]
    simp [enE]
  | y :: l, k + 1, e, h, ha => by
    have h' : l[k]? = some e := by simpa using h
    have ha' := List.pairwise_cons.1 ha
    have hne := ha'.1 e (List.mem_of_getElem? h')
    have hb : (((enE y).born : Int) == (e.born : Int)) = false := by
      simp only [beq_eq_false_iff_ne, ne_eq]
      intro hq
      exact hne (by have : ((y.born : Nat) : Int) = e.born := hq; omega)
    rw [List.map_cons, List.findIdx?_cons, hb, find_born h' ha'.2]
    rfl
theorem mpl_put {l : List En} {clock k : Nat} {e : En} (h1 : W.heap[b]? = some (.map (l.map enE).toArray clock)) (hk : l[k]? = some e) (h2 : Apart l) (h3 : l.Pairwise fun x y => x.born ≠ y.born) (h4 : ∀ e ∈ l, e.born < clock) (h5 : ∀ a c, gtE l a c = f a c) (x : Int) :
    ∃ W', (Instr.entryStore 115 (.map (some b)) (goInt e.born) (.int .i64 x)).run Try.prog W = .ok () W' ∧ MPl W' b (updM f e.a e.c (some x)) ∧ W.grownBy W' (some b) ∧ W'.heap.size = W.heap.size := by
  have hb : (asInt (goInt e.born)).run Try.prog W = .ok (e.born : Int) W := by simp [asInt, asIntOf, goInt]
  unfold Instr.entryStore
  simp only [Sem.run_bind, Sem.run_pure, Result.andThen_ok, MapKept.run_getObj_map h1, hb]
  have hfi : (l.map enE).toArray.findIdx? (fun q => (q.born : Int) == (e.born : Int)) = some k := by
    rw [List.findIdx?_toArray]; exact find_born hk h3
  rw [hfi]
  simp only
  rw [MapKept.run_setObj_map _ h1]
  refine ⟨_, rfl, mpl_set (l := l) (clock := clock) (k := k) ?_ hk h2 h3 h4 h5, setHeap_grown _ _ _, by simp⟩
  refine (setHeap_at h1 _).trans ?_
  rw [← map_modify hk]
  congr 2
  apply Array.ext_getElem?
  intro i
  rw [Array.getElem?_modify, Array.getElem?_modify]
  split
  · rename_i hi
    subst hi
    rw [List.getElem?_toArray, List.getElem?_map, hk]
    rfl
  · rfl
/-- The number of a place is counted up: the entry first, then the number. -/
theorem MPl.entry (h : MPl W b f) (a c : Int) : ∃ W1 st, (Instr.mapEntry 115 (.map (some b)) (plV a c)).run Try.prog W = .ok (.tuple #[.int .i64 ((f a c).getD 0), st]) W1 ∧ MPl W1 b (updM f a c (some ((f a c).getD 0))) ∧ W.grownBy W1 (some b) ∧ W1.heap.size = W.heap.size ∧
    ∀ (x : Int) (W2 : World), W2.heap[b]? = W1.heap[b]? → ∃ W3, (Instr.entryStore 115 (.map (some b)) st (.int .i64 x)).run Try.prog W2 = .ok () W3 ∧ MPl W3 b (updM f a c (some x)) ∧ W2.grownBy W3 (some b) ∧ W3.heap.size = W2.heap.size := by
  obtain ⟨l, clock, h1, h2, h3, h4, h5⟩ := h
  unfold Instr.mapEntry
  rw [Sem.run_bind, run_underlying map_under, Result.andThen_ok]
  simp only [Sem.run_bind, Sem.run_pure, Result.andThen_ok, MapKept.run_getObj_map h1, check_place, run_find]
  have hg := h5 a c
  unfold gtE at hg
  cases hf : fnd a c l 0 with
  | none =>
    rw [hf] at hg
    rw [← hg]
    simp only [Option.map_none, Option.getD_none]
    rw [Sem.run_bind, int_zeroV, Result.andThen_ok, Sem.run_bind, MapKept.run_setObj_map _ h1, Result.andThen_ok]
    have hH : ({ W with heap := W.heap.setIfInBounds b (.map ((l.map enE).toArray.push { key := plV a c, val := .int .i64 0, born := clock }) (clock + 1)) } : World).heap[b]? = some (.map ((l ++ [(⟨a, c, 0, clock⟩ : En)]).map enE).toArray (clock + 1)) := by
      refine (setHeap_at h1 _).trans ?_
      simp [enE]
    have hM := mpl_push (f := f) hH (fnd_none hf) h2 h3 h4 h5
    refine ⟨_, _, rfl, hM, setHeap_grown _ _ _, by simp, fun x W2 hW2 => ?_⟩
    have hH2 := hW2.trans hH
    have hk : (l ++ [⟨a, c, 0, clock⟩] : List En)[l.length]? = some ⟨a, c, 0, clock⟩ := by simp
    have q2 : Apart (l ++ [⟨a, c, 0, clock⟩]) := by
      refine List.pairwise_append.2 ⟨h2, List.pairwise_singleton _ _, fun y hy z hz => ?_⟩
      obtain rfl : z = _ := by simpa using hz
      rintro ⟨q1, q2⟩
      exact fnd_none hf y hy ⟨q1.symm, q2.symm⟩
    have q3 : (l ++ [⟨a, c, 0, clock⟩] : List En).Pairwise fun x y => x.born ≠ y.born := by
      refine List.pairwise_append.2 ⟨h3, List.pairwise_singleton _ _, fun y hy z hz => ?_⟩
      obtain rfl : z = _ := by simpa using hz
      have := h4 y hy
      show y.born ≠ clock
      omega
    have q4 : ∀ e ∈ (l ++ [⟨a, c, 0, clock⟩] : List En), e.born < clock + 1 := by
      intro e he
      rcases List.mem_append.1 he with he | he
      · have := h4 e he; omega
      · obtain rfl : e = _ := by simpa using he
        show clock < clock + 1
        omega
    obtain ⟨W3, r1, r2, r3, r4⟩ := mpl_put (f := gtE (l ++ [⟨a, c, 0, clock⟩])) hH2 hk q2 q3 q4 (fun _ _ => rfl) x
    refine ⟨W3, r1, ?_, r3, r4⟩
    obtain ⟨l', cl', s1, s2, s3, s4, s5⟩ := r2
    refine ⟨l', cl', s1, s2, s3, s4, fun y z => ?_⟩
    rw [s5]
    unfold updM
    by_cases hq : y = a ∧ z = c
    · rw [if_pos hq, if_pos hq]
    · rw [if_neg hq, if_neg hq, gtE_app, h5]
      dsimp only
      rw [if_neg hq]
      cases f y z <;> rfl
  | some p =>
    obtain ⟨i, v⟩ := p
    rw [hf] at hg
    obtain ⟨k, hk0, e, hk, rfl, rfl, rfl⟩ := fnd_some hf
    obtain rfl : i = k := by omega
    have hke : ((l.map enE).toArray[i]?.map (·.key)).getD (plV e.a e.c) = plV e.a e.c := by
      rw [List.getElem?_toArray, List.getElem?_map, hk]; rfl
    have hkb : ((l.map enE).toArray[i]?.map (fun q => (q.born : Int))).getD 0 = (e.born : Int) := by
      rw [List.getElem?_toArray, List.getElem?_map, hk]; rfl
    rw [← hg]
    simp only [Option.map_some, hke, hkb, Option.getD_some]
    rw [Sem.run_bind, stays_place, Result.andThen_ok, Sem.run_bind, MapKept.run_setObj_map _ h1, Result.andThen_ok]
    have hH : ({ W with heap := W.heap.setIfInBounds b (.map ((l.map enE).toArray.modify i fun q => { q with key := plV e.a e.c }) clock) } : World).heap[b]? = some (.map (l.map enE).toArray clock) := by
      refine (setHeap_at h1 _).trans ?_
      congr 2
      apply Array.ext_getElem?
      intro j
      rw [Array.getElem?_modify]
      split
      · rename_i hi
        subst hi
        rw [List.getElem?_toArray, List.getElem?_map, hk]
        rfl
      · rfl
    refine ⟨_, _, rfl, ⟨l, clock, hH, h2, h3, h4, fun y z => ?_⟩, setHeap_grown _ _ _, by simp, fun x W2 hW2 => mpl_put (hW2.trans hH) hk h2 h3 h4 h5 x⟩
    unfold updM
    split
    · rename_i hq
      rw [hq.1, hq.2]
      unfold gtE
      rw [hf]
      rfl
    · exact h5 _ _
end
end Go.Proofs.Ytkibdciomheekaa

set_option linter.all false
attribute [local go_sem] Go.Oper.semAt_some
namespace Go.Proofs.Ytkibdciomheekaa
open Go.RowKit Hp

theorem run_row_var (W : World) (b o : Nat) (f : Row) (h : W.rangeAt b o (rowL f)) : (loadVar 136 ⟨b, o, none⟩).run Try.prog W = .ok (.agg (rowL f).toArray) W :=
  run_loadVar_mid W b o 136 (rowL f) _ h row_under rfl (by rw [row_size, rowL_len])
/-- The fields of the tree, and its rows. -/
theorem TreeM.open {W : World} {g : Nat} {vb vs : Value} {m : Rg} {bars : List Rg} {ss : List Stp} (h : TreeM W g vb vs m bars ss) : ∃ gf cf gr cr, W.cell? ⟨g, 0, none⟩ = some vb ∧ W.cell? ⟨g, 1, none⟩ = some vs ∧ W.cell? ⟨g, 4, none⟩ = some (.slice (some ⟨gf, 0, none⟩) (ss.length + 1) cf) ∧ W.cell? ⟨g, 5, none⟩ = some (.slice (some ⟨gr, 0, none⟩) (ss.length + 1) cr) ∧ g < W.heap.size ∧
    Gd W gf 136 (ss.length + 1) (fun i => frontF bars (ss.take i)) ∧ Gd W gr 136 (ss.length + 1) (fun i => rearF m (ss.drop i)) ∧ RR W W.heap.size vb bars ∧ RP W W.heap.size vs ss := by
  obtain ⟨gf, cf, gr, cr, h1, h2, h3, h4⟩ := h
  exact ⟨gf, cf, gr, cr, by simpa using h1.cell 0, by simpa using h1.cell 1, by simpa using h1.cell 4, by simpa using h1.cell 5, h1.lt, h4⟩
theorem TreeM.next {W W' : World} {g : Nat} {vb vs : Value} {m : Rg} {bars : List Rg} {ss : List Stp} (h : TreeM W g vb vs m bars ss) (hb : Below W.heap.size W W') : TreeM W' g vb vs m bars ss := by
  obtain ⟨gf, cf, gr, cr, h1, h2, h3, h4, h5, h6, h7⟩ := h
  exact ⟨gf, cf, gr, cr, h1.below hb h1.lt, h2, h3, h4.below hb h4.lt, h5.below hb h5.lt, (RS.below h6 hb).more hb.size, RP.more (RP.below h7 hb) hb.size⟩
section
variable {P : Program} {ops : Array Oper} {Q : Exit → Act → World → Prop}
theorem wp_store_run {o : Oper} {a : Act} {w w' : World} {K : Act → World → Prop} (ty : TypeId) (x y : Operand) (ho : o.op = .store ty x y) (hrun : (Instr.storeAt ty (a.eval x) (a.eval y)).run P w = .ok () w') (h : K (a.put o.dst undef) w') : o.wp P a w K Q := by
  unfold Oper.wp execOp
  simp only [ho, Sem.run_bind, Sem.run_pure, hrun, Result.andThen_ok]
  exact h
theorem wpList_store_run {rest : List Oper} {o : Oper} {a : Act} {w w' : World} (hgd : o.guard = none) (ty : TypeId) (x y : Operand) (ho : o.op = .store ty x y) (hrun : (Instr.storeAt ty (a.eval x) (a.eval y)).run P w = .ok () w')
    (h : wpList P ops Q rest (a.put o.dst undef) w') : wpList P ops Q (o :: rest) a w := wpList_plain hgd fun K hK => wp_store_run ty x y ho hrun (hK _ _ h)
end
theorem results_row {fn : Func} {t : Nat} {tmps : Array Value} {a : Addr} {W : World} {L : Array Value} (h : fn.results = #[.cell t 136]) (hp : tmps.getD t undef = .pointer (some a)) (hr : (loadVar 136 a).run Try.prog W = .ok (.agg L) W) : (results fn tmps).run Try.prog W = .ok (.agg L) W := by
  unfold results
  rw [h]
  have h1 : (tmps[t]?.getD undef) = .pointer (some a) := by rw [← hp, Array.getD_eq_getD_getElem?]
  have h2 : (asAddr (.pointer (some a))).run Try.prog W = .ok a W := rfl
  simp [h1, h2, hr]
/-- Both rows, up to a hardness. -/
def mixR (F R : Row) (x : Nat) : Row := fun y => if y < x then F y && R y else F y
theorem mixR_zero (F R : Row) : mixR F R 0 = F := by
  funext y
  exact if_neg (by omega)
theorem mixR_all (F R : Row) : ∀ y, y < 1001 → (fun h => F h && R h) y = mixR F R 1001 y := fun y hy => (if_pos hy).symm
theorem mixR_succ (F R : Row) (x : Nat) : seR (mixR F R x) x (F x && R x) = mixR F R (x + 1) := by
  funext y
  unfold seR mixR
  by_cases h : y = x
  · subst h; rw [if_pos rfl, if_pos (by omega)]
  · rw [if_neg h]
    by_cases h2 : y < x
    · rw [if_pos h2, if_pos (by omega)]
    · rw [if_neg h2, if_neg (by omega)]
theorem mixR_at (F R : Row) (x : Nat) : mixR F R x x = F x := if_neg (by omega)
theorem mul_i8 (x y : Bool) : IntKind.i8.wrap ((if x then 1 else 0) * (if y then 1 else 0)) = if (x && y) then 1 else 0 := by
  cases x <;> cases y <;> rfl

set_option maxHeartbeats 8000000 in
set_option maxRecDepth 100000 in
theorem both_any (g : Nat) (vb vs : Value) (m : Rg) (bars : List Rg) (ss : List Stp) (i : Nat) (w : World) (hT : TreeM w g vb vs m bars ss) (hi : i ≤ ss.length) (hn : ss.length ≤ 1000) :
    Calls Try.prog 88 #[.pointer (some ⟨g, 0, none⟩), .int .i64 (i : Int)] w fun e w' => e = .returned (rowV (bothF bars m ss i)) ∧ Below w.heap.size w w' := by
  obtain ⟨gf, cf, gr, cr, c0, c1, c4, c5, lg, hF, hR, _, _⟩ := hT.open
  clear hT
  have hi1 : (i : Int) < ((ss.length + 1 : Nat) : Int) := by omega
  have hi2 : (i : Int) < (ss.length : Int) + 1 := by omega
  obtain ⟨n0, hn0⟩ : ∃ n, w.heap.size = n := ⟨_, rfl⟩
  have hz := row_zeroA
  have hbF : bothF bars m ss i = fun h => frontF bars (ss.take i) h && rearF m (ss.drop i) h := rfl
  obtain ⟨F, hFe⟩ : ∃ F, frontF bars (ss.take i) = F := ⟨_, rfl⟩
  obtain ⟨R, hRe⟩ : ∃ R, rearF m (ss.drop i) = R := ⟨_, rfl⟩
  rw [hFe, hRe] at hbF
  have hra := hF.range (i := i) (by omega)
  rw [hFe] at hra
  have hrc := fun x hx => hR.cell (i := i) (x := x) (by omega) hx
  rw [hRe] at hrc
  have lgr := hR.lt
  have lgf := hF.lt
  have HRA := Lib.hid hra
  have HRC := Lib.hid hrc
  have HBF := Lib.hid hbF
  have HSZ := Lib.hid (show (Try.prog.info? 136).map (·.size) = some (rowL F).length by rw [row_size, rowL_len])
  clear hF hR hFe hRe hra hrc hbF
  go_enter Try.func88, Try.ntmps88
  go_upto_region 1 with fail
  have b4 : BK (w.alloc (.cells (rowL noR).toArray 136)) n0 (rowL noR).toArray 136 := BK.new' _ _ _ n0 hn0
  have hb1 : Below w.heap.size w (w.alloc (.cells (rowL noR).toArray 136)) := by exact bel_of
  have hs1 : (w.alloc (.cells (rowL noR).toArray 136)).heap.size = n0 + 1 := by simp [hn0]
  have C5 := Lib.hid c5
  have LG := Lib.hid lg
  have LGR := Lib.hid lgr
  replace c4 := (hb1.cell (p := ⟨g, 4, none⟩) lg).trans c4
  replace c5 := (hb1.cell (p := ⟨g, 5, none⟩) lg).trans c5
  have hra : (w.alloc (.cells (rowL noR).toArray 136)).rangeAt gf (i * 1001) (rowL F) := fun j v hv => by
    rw [hb1.cell (p := ⟨gf, _, none⟩) lgf]; exact HRA.out j v hv
  have hrc : ∀ x, x < 1001 → (w.alloc (.cells (rowL noR).toArray 136)).cell? ⟨gr, i * 1001 + x, none⟩ = some (cel (R x)) := fun x hx => (hb1.cell (p := ⟨gr, _, none⟩) lgr).trans (HRC.out x hx)
  have HC := Lib.hid (show Below n0 w (w.alloc (.cells (rowL noR).toArray 136)) by rw [← hn0]; exact hb1)
  replace lg : g < (w.alloc (.cells (rowL noR).toArray 136)).heap.size := by omega
  replace lgf : gf < (w.alloc (.cells (rowL noR).toArray 136)).heap.size := by omega
  replace lgr : gr < (w.alloc (.cells (rowL noR).toArray 136)).heap.size := by omega
  have HRW := Lib.hid HRC.out
  clear HRA HRC hb1
  generalize (w.alloc (.cells (rowL noR).toArray 136)) = W1 at *
  have hsr : (Instr.storeAt 136 (.pointer (some ⟨n0 + 1, 0, none⟩)) (.agg (rowL F).toArray)).run Try.prog (W1.alloc (.cells (rowL noR).toArray 136)) = .ok () (W1.alloc (.cells (rowL F).toArray 136)) := by
    rw [← hs1]
    exact run_storeAt_new W1 136 (rowL noR).toArray (rowL F).toArray (by rw [row_size]; simp [rowL_len]) (by simp [rowL_len]) (rowL_one F)
  have hsz := HSZ.out
  have hone := rowL_one F
  have hb4 := b4
  clear HSZ
  obtain ⟨LF, hLF⟩ : ∃ L, rowL F = L := ⟨_, rfl⟩
  obtain ⟨Z0, hZ0⟩ : ∃ L, (rowL noR).toArray = L := ⟨_, rfl⟩
  rw [hLF] at hsz hra hsr
  rw [hZ0] at hz hsr hb4
  have HLF := Lib.hid hLF
  have HZ0 := Lib.hid hZ0
  have HSZ := Lib.hid hsz
  have HSR := Lib.hid hsr
  have HRA := Lib.hid hra
  have HB4 := Lib.hid hb4
  clear hsr hra hsz hLF hZ0 b4 hb4 hone
  go_upto_region 2 with (first | refine wpList_load_mid rfl 136 (.tmp 12) rfl gf (i * 1001) rfl LF _ HRA.out row_under rfl HSZ.out ?_ | refine wpList_store_run rfl 136 (.tmp 5) (.tmp 13) rfl HSR.out ?_)
  have hG4 : Gd (W1.alloc (.cells LF.toArray 136)) n0 136 1 (fun _ => noR) := by
    have := HB4.out
    rw [← HZ0.out] at this
    refine Gd.alloc ⟨_, this, by simp [rowL_len], fun i h hi hh => ?_⟩ _
    obtain rfl : i = 0 := by omega
    rw [Nat.zero_mul, Nat.zero_add, List.getElem?_toArray, rowL_at _ hh]
  have hG5 : Gd (W1.alloc (.cells LF.toArray 136)) (n0 + 1) 136 1 (fun _ => mixR F R 0) := by
    rw [← HLF.out, mixR_zero]
    exact Gd.new _ _ _ _ hs1
  have hC : Below n0 w (W1.alloc (.cells LF.toArray 136)) := Below.alloc HC.out (by omega) _
  clear HB4 HRA HSR HSZ HLF HZ0 hrc lg lgf lgr c4 c5 HC hs1
  generalize W1.alloc (.cells LF.toArray 136) = W2 at *
  simp only [Act.put]
  go_wp2_with fail
  go_loopw [14] (fun v wr => ∃ x : Nat, x ≤ 1001 ∧ v = .int .i64 (x : Int) ∧ Gd wr n0 136 1 (fun _ => noR) ∧ Gd wr (n0 + 1) 136 1 (fun _ => mixR F R x) ∧ Below n0 w wr) (fun v _ => 1001 - (intOf v).toNat)
  case atStart => exact ⟨0, Nat.zero_le _, rfl, hG4, hG5, hC⟩
  case round =>
    clear hG4 hG5 hC
    obtain ⟨x, hx, rfl, hG4, hG5, hC⟩ := hrel
    have lgw : g < wr.heap.size := by have := LG.out; have := hC.size; omega
    by_cases hlt : x < 1001
    case neg =>
      obtain rfl : x = 1001 := by omega
      have hra := hG5.range (i := 0) (by omega)
      have hth := hG4.there (i := 0) (by omega)
      rw [Nat.zero_mul] at hra hth
      have hsz : (Try.prog.info? 136).map (·.size) = some (rowL (mixR F R 1001)).length := by rw [row_size, rowL_len]
      have hsy : (Try.prog.info? 136).map (·.size) = some (rowL (mixR F R 1001)).toArray.size := by rw [row_size, List.size_toArray, rowL_len]
      have hth2 : wr.there n0 0 (rowL (mixR F R 1001)).toArray.size := by rw [List.size_toArray, rowL_len]; exact hth
      have hone := rowL_one (mixR F R 1001)
      have hpu := hG4.put (i := 0) (by omega) (mixR F R 1001)
      rw [Nat.zero_mul] at hpu
      have hrp := hpu.one.range (i := 0) (by omega)
      rw [Nat.zero_mul] at hrp
      have hrr := run_row_var _ _ _ _ hrp
      have hCf : Below n0 w (wr.setCells n0 0 (rowL (mixR F R 1001))) := setCells_below (Nat.le_refl _) _ _ _ hC
      have hmx : rowV (bothF bars m ss i) = .agg (rowL (mixR F R 1001)).toArray := by
        unfold rowV
        rw [HBF.out, rowL_ext (mixR_all F R)]
      obtain ⟨L, hL⟩ : ∃ L, rowL (mixR F R 1001) = L := ⟨_, rfl⟩
      rw [hL] at hra hsz hsy hth2 hone hrr hCf hmx
      have HRA := Lib.hid hra
      have HSZ := Lib.hid hsz
      have HSY := Lib.hid hsy
      have HTH := Lib.hid hth2
      have HON := Lib.hid hone
      have HRR := Lib.hid hrr
      have HCF := Lib.hid hCf
      have HMX := Lib.hid hmx
      clear hra hth hsz hsy hth2 hone hpu hrp hrr hCf hmx hL hG4 hG5 hC
      go_wp2_with (first | refine wpList_load_mid rfl 136 (.tmp 5) rfl (n0 + 1) 0 rfl L _ HRA.out row_under rfl HSZ.out ?_ | refine wpList_store_mid rfl 136 (.tmp 4) (.tmp 32) rfl n0 0 L.toArray rfl rfl HTH.out HSY.out HON.out ?_)
      exact bodyPost_ret (v := .agg L.toArray) (results_row rfl rfl HRR.out) rfl ⟨by rw [HMX.out], by rw [hn0]; exact HCF.out⟩
    have hlt' : (x : Int) < 1001 := by omega
    have z5 := hG5.cell (i := 0) (by omega) hlt
    rw [Nat.zero_mul, Nat.zero_add, mixR_at] at z5
    have f5 := hG5.frozen x
    have l5 := hG5.lt
    have cc5 := (hC.cell (p := ⟨g, 5, none⟩) (by show g < n0; have := LG.out; omega)).trans C5.out
    have zr := (hC.cell (p := ⟨gr, i * 1001 + x, none⟩) (by show gr < n0; have := LGR.out; omega)).trans (HRW.out x hlt)
    have hset := hG5.set (i := 0) (by omega) hlt (F x && R x)
    rw [Nat.zero_mul, Nat.zero_add, mixR_succ] at hset
    have hset2 := hset.one
    have hG42 := hG4.far (p := ⟨n0 + 1, x, none⟩) (by show n0 ≠ n0 + 1; omega) (cel (F x && R x))
    have hC2 : Below n0 w (wr.setCell ⟨n0 + 1, x, none⟩ (cel (F x && R x))) := Below.setCell hC (by show n0 ≤ n0 + 1; omega) _
    have hw := mul_i8 (F x) (R x)
    unfold cel at z5 zr hset2 hG42 hC2
    have HSET := Lib.hid hset2
    have HG4 := Lib.hid hG42
    have HC2 := Lib.hid hC2
    clear hG4 hG5 hC hset hset2 hG42 hC2
    generalize (if F x = true then (1 : Int) else 0) = va at *
    generalize (if R x = true then (1 : Int) else 0) = vb' at *
    generalize (if (F x && R x) = true then (1 : Int) else 0) = vc at *
    have hd1 : Below wr.heap.size wr wr.drew := Below.drew (Below.refl _ _)
    have lgrw : gr < wr.heap.size := by have := LGR.out; omega
    have HX : ∀ X2, Below wr.heap.size wr X2 → X2.cell? ⟨n0 + 1, x, none⟩ = some (.int .i8 va) ∧ (X2.cell? ⟨g, 5, none⟩ = some (.slice (some ⟨gr, 0, none⟩) (ss.length + 1) cr) ∧ X2.cell? ⟨gr, i * 1001 + x, none⟩ = some (.int .i8 vb')) := fun X2 hX => ⟨(hX.cell (p := ⟨n0 + 1, x, none⟩) l5).trans z5, (hX.cell (p := ⟨g, 5, none⟩) lgw).trans cc5, (hX.cell (p := ⟨gr, i * 1001 + x, none⟩) lgrw).trans zr⟩
    go_upto_region 5 with fail
    refine wp_region_noPanic (plain_any [0, 1, 2, 3, 4, 5, 6, 7, 8, 9, 10, 11, 12, 13] (Below wr.heap.size wr) mixed ?_)
    (refine any_take 0 ?_ (by rfl) (by kernel_rfl) (fun _ _ _ _ _ hx => hx.elim) (.inl ⟨by rfl, ?_⟩) hd1 ?_; rotate_left; (intro X hX; obtain ⟨r1, r2⟩ := HX X hX; clear hX; go_simp; rfl); simp only [List.getElem_toArray, List.getElem_cons_succ, List.getElem_cons_zero, Act.put, List.setIfInBounds_toArray, List.set_cons_succ, List.set_cons_zero])
    (refine any_take 1 ?_ (by rfl) (by kernel_rfl) (fun _ _ _ _ _ hx => hx.elim) (.inl ⟨by rfl, ?_⟩) hd1 ?_; rotate_left; (intro X hX; obtain ⟨r1, r2⟩ := HX X hX; clear hX; go_simp; rfl); simp only [List.getElem_toArray, List.getElem_cons_succ, List.getElem_cons_zero, Act.put, List.setIfInBounds_toArray, List.set_cons_succ, List.set_cons_zero])
    (refine any_take 2 ?_ (by rfl) (by kernel_rfl) (fun _ _ _ _ _ hx => hx.elim) (.inl ⟨by rfl, ?_⟩) hd1 ?_; rotate_left; (intro X hX; obtain ⟨r1, r2⟩ := HX X hX; clear hX; go_simp; rfl); simp only [List.getElem_toArray, List.getElem_cons_succ, List.getElem_cons_zero, Act.put, List.setIfInBounds_toArray, List.set_cons_succ, List.set_cons_zero])
    (refine any_take 3 ?_ (by rfl) (by kernel_rfl) (fun _ _ _ _ _ hx => hx.elim) (.inl ⟨by rfl, ?_⟩) hd1 ?_; rotate_left; (intro X hX; obtain ⟨r1, r2⟩ := HX X hX; clear hX; go_simp; rfl); simp only [List.getElem_toArray, List.getElem_cons_succ, List.getElem_cons_zero, Act.put, List.setIfInBounds_toArray, List.set_cons_succ, List.set_cons_zero])
    (refine any_take 4 ?_ (by rfl) (by kernel_rfl) (fun _ _ _ _ _ hx => hx.elim) (.inl ⟨by rfl, ?_⟩) hd1 ?_; rotate_left; (intro X hX; obtain ⟨r1, r2⟩ := HX X hX; clear hX; go_simp; rfl); simp only [List.getElem_toArray, List.getElem_cons_succ, List.getElem_cons_zero, Act.put, List.setIfInBounds_toArray, List.set_cons_succ, List.set_cons_zero])
    (refine any_take 5 ?_ (by rfl) (by kernel_rfl) (fun _ _ _ _ _ hx => hx.elim) (.inl ⟨by rfl, ?_⟩) hd1 ?_; rotate_left; (intro X hX; obtain ⟨r1, r2⟩ := HX X hX; clear hX; go_simp; rfl); simp only [List.getElem_toArray, List.getElem_cons_succ, List.getElem_cons_zero, Act.put, List.setIfInBounds_toArray, List.set_cons_succ, List.set_cons_zero])
    (refine any_take 6 ?_ (by rfl) (by kernel_rfl) (fun _ _ _ _ _ hx => hx.elim) (.inl ⟨by rfl, ?_⟩) hd1 ?_; rotate_left; (intro X hX; obtain ⟨r1, r2⟩ := HX X hX; clear hX; go_simp; rfl); simp only [List.getElem_toArray, List.getElem_cons_succ, List.getElem_cons_zero, Act.put, List.setIfInBounds_toArray, List.set_cons_succ, List.set_cons_zero])
    (refine any_take 7 ?_ (by rfl) (by kernel_rfl) (fun _ _ _ _ _ hx => hx.elim) (.inl ⟨by rfl, ?_⟩) hd1 ?_; rotate_left; (intro X hX; obtain ⟨r1, r2⟩ := HX X hX; clear hX; go_simp; rfl); simp only [List.getElem_toArray, List.getElem_cons_succ, List.getElem_cons_zero, Act.put, List.setIfInBounds_toArray, List.set_cons_succ, List.set_cons_zero])
    (refine any_take 8 ?_ (by rfl) (by kernel_rfl) (fun _ _ _ _ _ hx => hx.elim) (.inl ⟨by rfl, ?_⟩) hd1 ?_; rotate_left; (intro X hX; obtain ⟨r1, r2⟩ := HX X hX; clear hX; go_simp; rfl); simp only [List.getElem_toArray, List.getElem_cons_succ, List.getElem_cons_zero, Act.put, List.setIfInBounds_toArray, List.set_cons_succ, List.set_cons_zero])
    (refine any_take 9 ?_ (by rfl) (by kernel_rfl) (fun _ _ _ _ _ hx => hx.elim) (.inl ⟨by rfl, ?_⟩) hd1 ?_; rotate_left; (intro X hX; obtain ⟨r1, r2⟩ := HX X hX; clear hX; go_simp; rfl); simp only [List.getElem_toArray, List.getElem_cons_succ, List.getElem_cons_zero, Act.put, List.setIfInBounds_toArray, List.set_cons_succ, List.set_cons_zero])
    (refine any_take 10 ?_ (by rfl) (by kernel_rfl) (fun _ _ _ _ _ hx => hx.elim) (.inl ⟨by rfl, ?_⟩) hd1 ?_; rotate_left; (intro X hX; obtain ⟨r1, r2⟩ := HX X hX; clear hX; go_simp; rfl); simp only [List.getElem_toArray, List.getElem_cons_succ, List.getElem_cons_zero, Act.put, List.setIfInBounds_toArray, List.set_cons_succ, List.set_cons_zero])
    (refine any_take 11 ?_ (by rfl) (by kernel_rfl) (fun _ _ _ _ _ hx => hx.elim) (.inl ⟨by rfl, ?_⟩) hd1 ?_; rotate_left; (intro X hX; obtain ⟨r1, r2⟩ := HX X hX; clear hX; go_simp; rfl); simp only [List.getElem_toArray, List.getElem_cons_succ, List.getElem_cons_zero, Act.put, List.setIfInBounds_toArray, List.set_cons_succ, List.set_cons_zero])
    (refine any_take 12 ?_ (by rfl) (by kernel_rfl) (fun _ _ _ _ _ hx => hx.elim) (.inl ⟨by rfl, ?_⟩) hd1 ?_; rotate_left; (intro X hX; obtain ⟨r1, r2⟩ := HX X hX; clear hX; go_simp; rfl); simp only [List.getElem_toArray, List.getElem_cons_succ, List.getElem_cons_zero, Act.put, List.setIfInBounds_toArray, List.set_cons_succ, List.set_cons_zero])
    (refine any_take 13 ?_ (by rfl) (by kernel_rfl) (fun _ _ _ _ _ hx => hx.elim) (.inl ⟨by rfl, ?_⟩) hd1 ?_; rotate_left; (intro X hX; obtain ⟨r1, r2⟩ := HX X hX; clear hX; go_simp; rfl); simp only [List.getElem_toArray, List.getElem_cons_succ, List.getElem_cons_zero, Act.put, List.setIfInBounds_toArray, List.set_cons_succ, List.set_cons_zero])
    refine any_run1 (i := 14) (by kernel_rfl) (by rfl) (by kernel_rfl) ?_
    intro K5 hK5
    go_wp2_with fail
    refine hK5 _ _ (fun hx => (Bool.false_ne_true (hx.symm.trans (by kernel_rfl))).elim) ?_
    clear hK5 K5 HX hd1
    refine any_done (by kernel_rfl) (NoPanic.normal ?_)
    have wx : IntKind.i64.wrap ((x : Int) + 1) = (x : Int) + 1 := by rw [IntKind.wrap_i64]; omega
    clear z5 f5 cc5 zr hw
    go_wp2_with fail
    go_roundw
    case rel => exact ⟨x + 1, by omega, by go_num, HG4.out, HSET.out, HC2.out.drew⟩
    case measure => simp [intOf]; omega
end Go.Proofs.Ytkibdciomheekaa
