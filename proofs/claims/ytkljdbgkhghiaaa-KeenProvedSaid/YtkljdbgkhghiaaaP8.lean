/- A row is bounded: round by round. -/
import Derived.Test.YtkljdbgkhghiaaaP7
import Derived.Deep.LoopGhost
import Derived.Deep.WholeRow
set_option linter.all false
set_option linter.unnecessarySimpa false
set_option linter.unusedSimpArgs false
set_option linter.unusedVariables false
set_option linter.unusedSectionVars false

attribute [local go_sem] Go.Oper.semAt_some
namespace Go.Proofs.Ytkljdbgkhghiaaa
open Go.RowKit Kp

/-- A loop whose marks of ranges grow: the frame by a function of its places. -/
theorem wp_loop_u {P : Program} {Q : Exit → Act → World → Prop} {a : Act} {w : World} {c : Code} (mkT : (Nat → Value) → Array Value) (J : Nat → (Nat → Value) → List Deferred → World → Prop) (n0 : Nat)
    (h0 : a.tmps = mkT fun j => a.tmps.getD j undef) (hJ : J n0 (fun j => a.tmps.getD j undef) a.defers w)
    (round : ∀ n u ds W, J n u ds W → ∀ K : Act → World → Prop, (∀ n' a' w', n' < n → a'.tmps = mkT (fun j => a'.tmps.getD j undef) → J n' (fun j => a'.tmps.getD j undef) a'.defers w' → K a' w') → c.wp P (Exit.then K Q) { tmps := mkT u, defers := ds } W) : (Code.loop c).wp P Q a w := by
  refine wp_loop_ghost (fun n a X => a.tmps = mkT (fun j => a.tmps.getD j undef) ∧ J n (fun j => a.tmps.getD j undef) a.defers X) n0 ⟨h0, hJ⟩ ?_
  rintro n a X ⟨h1, h2⟩
  have h3 := round n _ _ X h2 _ (fun n' a' w' q1 q2 q3 => (⟨n', q1, q2, q3⟩ : ∃ n', n' < n ∧ a'.tmps = mkT (fun j => a'.tmps.getD j undef) ∧ J n' (fun j => a'.tmps.getD j undef) a'.defers w'))
  rw [← h1] at h3
  exact h3
def mkT103 (u : Nat → Value) : Array Value := #[u 0, u 1, u 2, u 3, u 4, u 5, u 6, u 7, u 8, u 9, u 10, u 11, u 12, u 13, u 14, u 15, u 16, u 17, u 18, u 19, u 20, u 21, u 22, u 23, u 24, u 25, u 26, u 27, u 28, u 29, u 30, u 31, u 32, u 33, u 34, u 35, u 36, u 37, u 38, u 39, u 40, u 41, u 42, u 43, u 44, u 45, u 46, u 47, u 48, u 49, u 50, u 51, u 52, u 53, u 54, u 55, u 56, u 57, u 58, u 59, u 60, u 61, u 62, u 63, u 64, u 65, u 66, u 67, u 68, u 69, u 70, u 71, u 72, u 73, u 74, u 75, u 76, u 77, u 78, u 79, u 80, u 81, u 82, u 83, u 84, u 85, u 86, u 87, u 88, u 89, u 90, u 91, u 92, u 93, u 94, u 95, u 96, u 97, u 98, u 99, u 100, u 101, u 102]

/-- The statement, the frame of a round by the frame ahead of it. -/
theorem wp_range_a {P : Program} {g : Operand} {ps : Array Tmp} {assign body : Code} {Q : Exit → Act → World → Prop} {a : Act} {w : World}
    {gf : Nat} {lb : Array Value} (hg : a.eval g = .func (.func gf) #[] lb) (eg : ∀ args w, (callFunc gf args).run P w = .ok (.enter gf args) w)
    {enc : Nat → Array Value} {N : Nat} {R : World → Prop} {T : TypeId → Prop} (hit : Iter P gf lb enc N R T) (hps : ∀ i, (enc i).size = ps.size)
    (I : Nat → World → Prop) (Ix : Code → Nat → World → Prop) (AxF : Array Value → Nat → Act → World → Prop) (hr : Rounds P T w.heap.size a.tmps ps assign body enc N I Ix (AxF a.tmps)) (hR : ∀ i W, I i W → R W) (h0 : I 0 w)
    (hdone : ∀ (D : Nat) (W : World), w.heap.size ≤ D → I N W → W.heap[D]? = some (.deferred (some [])) → Q .normal { a with defers := { target := .collected D, args := #[] } :: a.defers } W)
    (hstop : ∀ (D : Nat) (c : Code) (i : Nat) (W : World), w.heap.size ≤ D → i < N → Ix c i W → W.heap[D]? = some (.deferred (some [])) → c.wp P Q { a with defers := { target := .collected D, args := #[] } :: a.defers } W) :
    (Code.rangeFunc g ps assign body).wp P Q a w := wp_range hg eg hit hps I Ix (AxF a.tmps) hr hR h0 hdone hstop

def sJ (E : Nat) (L : List Kw) (s : Sk) (j : Nat) : Sk := (L.take j).foldl (stepK E) { s with chg := -1 }
theorem relaxK_succ (E : Nat) (L : List Kw) (r : Nat) (z : Int) (s : Sk) : relaxK E L (r + 1) z s = if (roundK E L s).most = s.most then (-1, roundK E L s) else relaxK E L r (roundK E L s).chg (roundK E L s) := rfl
theorem sJ_0 (E : Nat) (L : List Kw) (s : Sk) : sJ E L s 0 = { s with chg := -1 } := by simp [sJ]
theorem sJ_succ {E : Nat} {L : List Kw} {s : Sk} {j : Nat} (h : j < L.length) : sJ E L s (j + 1) = stepK E (sJ E L s j) (nthW L j) := by
  unfold sJ nthW
  rw [List.take_succ_eq_append_getElem h, List.foldl_append, List.getD_eq_getElem?_getD, List.getElem?_eq_getElem h]
  rfl
theorem sJ_all {E : Nat} {L : List Kw} {s : Sk} {j : Nat} (h : L.length = j) : sJ E L s j = roundK E L s := by
  unfold sJ roundK; rw [List.take_of_length_le (by omega)]
theorem nthW_mem {L : List Kw} {j : Nat} (h : j < L.length) : nthW L j ∈ L := by
  unfold nthW; rw [List.getD_eq_getElem?_getD, List.getElem?_eq_getElem h]; exact List.getElem_mem h
theorem lks_rng {E : Nat} {ts : List Kt} {q : Nat → Bool} {top : Int} (h : Okb E ts) {k : Kw} (hk : k ∈ lks E ts q top) : -1000 ≤ k.2 ∧ k.2 ≤ 1000 := by
  unfold lks at hk
  rcases List.mem_append.1 hk with hk | hk
  · obtain ⟨j, t, h1, h2⟩ := (mem_lkT ts 0).1 hk
    obtain ⟨q1, q2, q3, q4, q5, q6, q7, q8⟩ := h.tst t (List.mem_of_getElem? h1)
    rcases h2 with rfl | rfl <;> dsimp only <;> omega
  · obtain ⟨v, hv, h1⟩ := mem_lkE.1 hk
    rcases h1 with rfl | rfl | ⟨h1, rfl⟩ <;> dsimp only <;> omega
theorem Marks.adm {Ds : List Nat} {B : Nat} {X Y : World} (h : Marks Ds X) (ha : Adm B X Y) (hB : ∀ D ∈ Ds, D < B) : Marks Ds Y := ⟨h.1, fun D hD => ha.obj (h.2 D hD) (hB D hD)⟩

/-- What lies behind a row that was bounded. -/
def RxPost (w : World) (gl : Nat) (s : Sk) (W : World) : Prop := ∃ gm n z', Lk W gl s.most (.map (some gm)) z' ∧ MP W gm n (fun v => (s.by_ v).map (fun x : Kw => x.1)) ∧ Below gl w W ∧ w.heap.size ≤ gm

/-- What lies while a row is bounded. -/
structure RxSt (w : World) (gb gl n : Nat) (s : Sk) (zz : Int) (nn k : Nat) (X : World) : Prop where
  lk : Lk X gl s.most (.map (some (n + 2))) zz
  mp : MP X (n + 2) nn (fun v => (s.by_ v).map (fun x : Kw => x.1))
  few : nn ≤ k
  below : Below gl w X
  b2 : BK X n #[.pointer (some ⟨gb, 0, none⟩)] 80
  b3 : BK X (n + 1) #[.pointer (some ⟨gl, 0, none⟩)] 94
  bd : ∀ v, -((k : Int) * 1000) ≤ nthI s.most v ∧ nthI s.most v ≤ far
theorem MP.adm {B : Nat} {W W' : World} {b n : Nat} {f : Nat → Option Kl} (h : MP W b n f) (ha : Adm B W W') (hB : b < B) : MP W' b n f := by
  obtain ⟨D, ⟨es, clock, h1, h2⟩, h3⟩ := h
  exact ⟨D, ⟨es, clock, ha.obj h1 hB, h2⟩, h3⟩
/-- What lies in a round over links. -/
structure RxI (w : World) (gb gl n : Nat) (s0 s : Sk) (zz : Int) (k h : Nat) (Ds : List Nat) (Y : World) : Prop where
  st : ∃ nn, RxSt w gb gl n s zz nn k Y
  b5 : BK Y h (ofI s0.most).toArray 98
  b6 : BK Y (h + 1) #[.int .i64 s.chg] 3
  b7 : BK Y (h + 2) #[.pointer (some ⟨gb, 0, none⟩)] 80
  mks : Marks Ds Y
  size : h + 3 ≤ Y.heap.size
section
variable {w : World} {gb gl n : Nat} {s : Sk} {zz : Int} {nn k : Nat} {X Y : World}
theorem RxSt.adm {B : Nat} (h : RxSt w gb gl n s zz nn k X) (ha : Adm B X Y) (hB : n + 2 < B) (hg : gl < n) (hw : w.heap.size = n) : RxSt w gb gl n s zz nn k Y :=
  ⟨h.lk.adm ha, h.mp.adm ha hB, h.few, ha.belowOf h.below (by omega) (by omega), ha.cells h.b2, ha.cells h.b3, h.bd⟩
theorem RxI.adm {B h : Nat} {s0 : Sk} {Ds : List Nat} (hI : RxI w gb gl n s0 s zz k h Ds X) (ha : Adm B X Y) (hB : n + 2 < B) (hg : gl < n) (hw : w.heap.size = n) (hD : ∀ D ∈ Ds, D < B) : RxI w gb gl n s0 s zz k h Ds Y := by
  obtain ⟨nn, hst⟩ := hI.st
  exact ⟨⟨nn, hst.adm ha hB hg hw⟩, ha.cells hI.b5, ha.cells hI.b6, ha.cells hI.b7, hI.mks.adm ha hD, Nat.le_trans hI.size ha.size⟩
theorem RxSt.bench {E : Nat} {vt : Value} {ts : List Kt} {bel : List Int} {top : Int} {asks : Bool} (h : RxSt w gb gl n s zz nn k X) (hB : Bn w gb E vt ts bel top asks) (hR : RT w gl vt ts) (hgb : gb < gl) : Bn X gb E vt ts bel top asks :=
  ⟨(h.below.block gb hgb).trans hB.1, (RS.below hR h.below).more (Nat.le_of_lt h.lk.lt), hB.2.2⟩
end

set_option maxHeartbeats 8000000 in
set_option maxRecDepth 100000 in
theorem relax_any (E : Nat) (vt : Value) (ts : List Kt) (bel : List Int) (top : Int) (asks : Bool) (gb gl : Nat) (most : List Int) (mv : Value) (z : Int) (w : World)
    (ho : Okb E ts) (hl : ts.length ≤ 40) (ht : 0 ≤ top ∧ top < E) (hB : Bn w gb E vt ts bel top asks) (hR : RT w gl vt ts) (hgb : gb < gl) (hL : Lk w gl most mv z) (hb : ∀ v, 0 ≤ nthI most v ∧ nthI most v ≤ far) :
    Calls Try.prog 78 #[.pointer (some ⟨gb, 0, none⟩), .pointer (some ⟨gl, 0, none⟩)] w fun e w' => e = .returned (.int .i64 (relaxK E (lks E ts (qOf bel asks) top) (E + 2) z (sk0 most)).1) ∧ RxPost w gl (relaxK E (lks E ts (qOf bel asks) top) (E + 2) z (sk0 most)).2 w' := by
  have hE := ho.few
  have hgl := hL.lt
  have lm := hL.map_
  have lf := hL.frozen 17
  have bE := hB.cells.1
  have hmm := fun W => run_makeMap (P := Try.prog) 99 W
  refine calls_of_wp_marks Try.func78 rfl ?_
  simp only [Try.ntmps78, List.size_toArray, List.length_cons, List.length_nil, Nat.reduceAdd, Nat.reduceSub, Array.replicate_succ, Array.replicate_zero, List.push_toArray, List.append_toArray, List.nil_append, List.cons_append]
  go_upto_region 1 with fail
  obtain ⟨n, hn⟩ : ∃ n, w.heap.size = n := ⟨_, rfl⟩
  have hC : Below w.heap.size w ((w.alloc (.cells #[.pointer (some ⟨gb, 0, none⟩)] 80)).alloc (.cells #[.pointer (some ⟨gl, 0, none⟩)] 94)) := by exact bel_of
  have b2 : BK ((w.alloc (.cells #[.pointer (some ⟨gb, 0, none⟩)] 80)).alloc (.cells #[.pointer (some ⟨gl, 0, none⟩)] 94)) n #[.pointer (some ⟨gb, 0, none⟩)] 80 := (BK.new' _ _ _ n hn).alloc _
  have b3 : BK ((w.alloc (.cells #[.pointer (some ⟨gb, 0, none⟩)] 80)).alloc (.cells #[.pointer (some ⟨gl, 0, none⟩)] 94)) (n + 1) #[.pointer (some ⟨gl, 0, none⟩)] 94 := BK.new' _ _ _ (n + 1) (by simp [hn])
  have hS : ((w.alloc (.cells #[.pointer (some ⟨gb, 0, none⟩)] 80)).alloc (.cells #[.pointer (some ⟨gl, 0, none⟩)] 94)).heap.size = n + 2 := by simp [hn]
  rw [hn]
  rw [hn] at hC hgl
  have hL1 := hL.below (by rw [hn]; exact hC)
  generalize (w.alloc (.cells #[.pointer (some ⟨gb, 0, none⟩)] 80)).alloc (.cells #[.pointer (some ⟨gl, 0, none⟩)] 94) = W1 at *
  clear lm lf bE
  have hM1 : Below W1.heap.size W1 (W1.alloc (.map #[] 0)) := Below.alloc (Below.refl _ _) (Nat.le_refl _) _
  have hL2 := hL1.below hM1
  have lm := hL2.map_
  have lf := hL2.frozen 17
  have y2 := b2.cell 0
  have y3 := b3.cell 0
  have l2 := b2.lt
  have l3 := b3.lt
  simp at y2 y3
  have y3' : (W1.alloc (.map #[] 0)).cell? ⟨n + 1, 0, none⟩ = some (.pointer (some ⟨gl, 0, none⟩)) := (hM1.cell (by exact l3)).trans y3
  go_upto_region 2 with fail
--CUT
  have hC2 : Below gl w ((W1.alloc (.map #[] 0)).setCell ⟨gl, 17, none⟩ (.map (some (n + 2)))) := by
    have q1 : Below gl w W1 := hC.mono (by omega)
    have q2 : Below gl W1 (W1.alloc (.map #[] 0)) := hM1.mono (by omega)
    exact Below.setCell (q1.trans q2) (Nat.le_refl _) _
  have hL3 := hL2.setMap (.map (some (n + 2)))
  have hMP : MP ((W1.alloc (.map #[] 0)).setCell ⟨gl, 17, none⟩ (.map (some (n + 2)))) (n + 2) 0 (fun _ => none) := by
    have := MP.made W1
    rw [hS] at this
    exact this.kept (Below.heap_setCell _ _ _ _ (by show n + 2 ≠ gl; omega))
  have hb2 : BK ((W1.alloc (.map #[] 0)).setCell ⟨gl, 17, none⟩ (.map (some (n + 2)))) n #[.pointer (some ⟨gb, 0, none⟩)] 80 := BK.far (b2.alloc _) (by show n ≠ gl; omega) _
  have hb3 : BK ((W1.alloc (.map #[] 0)).setCell ⟨gl, 17, none⟩ (.map (some (n + 2)))) (n + 1) #[.pointer (some ⟨gl, 0, none⟩)] 94 := BK.far (b3.alloc _) (by show n + 1 ≠ gl; omega) _
  have hst : RxSt w gb gl n (sk0 most) z 0 0 ((W1.alloc (.map #[] 0)).setCell ⟨gl, 17, none⟩ (.map (some (n + 2)))) :=
    ⟨hL3, hMP, Nat.le_refl _, hC2, hb2, hb3, fun v => by have := hb v; simp only [sk0]; omega⟩
  have hS2 : ((W1.alloc (.map #[] 0)).setCell ⟨gl, 17, none⟩ (.map (some (n + 2)))).heap.size = n + 3 := by simp [World.setCell, hS]
  generalize (W1.alloc (.map #[] 0)).setCell ⟨gl, 17, none⟩ (.map (some (n + 2))) = W2 at *
  clear hC hL hL1 hL2 lm lf hM1 y3' y2 y3 l2 l3 b2 b3 hS hC2 hL3 hMP hb2 hb3 W1
  have hBn := hst.bench hB hR hgb
  have y2 := hst.b2.cell 0
  have l2 := hst.b2.lt
  have bE := hBn.cells.1
  have hLc : (lks E ts (qOf bel asks) top).length ≤ 128 := by
    rw [lks_len]
    have : ∀ v, atE ts (qOf bel asks) top v ≤ 2 * ts.length + 3 * v := by
      intro v
      induction v with
      | zero => rw [atE_0]; omega
      | succ v ih => rw [atE_succ]; split <;> omega
    have := this E
    omega
  have wE : IntKind.i64.wrap ((E : Int) + 2) = (E : Int) + 2 := by rw [IntKind.wrap_i64]; omega
  simp at y2
  have HBn := Lib.hid hBn
  clear hBn
  go_wp2_with fail
  clear y2 l2 bE
  refine wp_loop_u mkT103 (fun m u ds X => ∃ Ds i s zz nn, ds = Ds.map mk ∧ m + i = E + 2 ∧ (u 2 = .pointer (some ⟨n, 0, none⟩) ∧ u 3 = .pointer (some ⟨n + 1, 0, none⟩) ∧ u 20 = .int .i64 ((E : Int) + 2) ∧ u 21 = .int .i64 i) ∧ Marks Ds X ∧ (∀ D ∈ Ds, n + 2 < D) ∧
    relaxK E (lks E ts (qOf bel asks) top) (E + 2) z (sk0 most) = relaxK E (lks E ts (qOf bel asks) top) m zz s ∧ RxSt w gb gl n s zz nn (i * 128) X) (E + 2) rfl ?_ ?_
  · exact ⟨[], 0, sk0 most, z, 0, rfl, rfl, ⟨rfl, rfl, rfl, rfl⟩, ⟨List.nodup_nil, fun D hD => by simp at hD⟩, fun D hD => by simp at hD, rfl, by rw [Nat.zero_mul]; exact hst⟩
  rintro m u ds X ⟨Ds, i, s, zz, nn, rfl, hmi, ⟨u2, u3, u20, u21⟩, hMk, hDs, hrk, hst2⟩ K hK
  have HLn := Lib.hid hLc
  have HRK := Lib.hid hrk
  clear hst hS2 HBn hLc hrk
  have hst := hst2
  clear hst2
  simp only [mkT103, u2, u3, u20, u21]
  clear u2 u3 u20 u21
  have y3 := hst.b3.cell 0
  have l3 := hst.b3.lt
  have y2 := hst.b2.cell 0
  have l2 := hst.b2.lt
  have lz := hst.lk.size_
  have lgl := hst.lk.lt
  simp at y2 y3
  cases m with
  | zero =>
    have hie : i = E + 2 := by omega
    subst hie
    have d1 : decide (((E + 2 : Nat) : Int) < (E : Int) + 2) = false := decide_eq_false (by omega)
    have hcast : ((E + 2 : Nat) : Int) = (E : Int) + 2 := by omega
    have HK := Lib.hid hK
    clear hK d1
    rw [hcast]
    have d1 : decide (((E : Int) + 2) < (E : Int) + 2) = false := decide_eq_false (by omega)
    go_wp2_with fail
    refine leave_all Ds X hMk (v := .int .i64 zz) (fun W' => by simp [results, Try.results78, go_sem]) ?_
    have e := HRK.out
    rw [relaxK] at e
    rw [e]
    refine ⟨rfl, n + 2, nn, zz, hst.lk.same (putAll_other Ds X gl (fun h => by have := hDs gl h; omega)), hst.mp.kept (putAll_other Ds X (n + 2) (fun h => by have := hDs (n + 2) h; omega)), putAll_below Ds X hst.below (fun D h => by have := hDs D h; omega), by omega⟩
  | succ m =>
    have hi : i < E + 2 := by omega
    have hBX := hst.bench hB hR hgb
    have HK := Lib.hid hK
    have HST := Lib.hid hst
    have HBX := Lib.hid hBX
    have HRW := Lib.hid hst.lk.row
    have HSZ := Lib.hid (show (Try.prog.info? 98).map (·.size) = some (ofI s.most).length by rw [row_size, ofI_len, hst.lk.2])
    obtain ⟨h, hh⟩ : ∃ h, X.heap.size = h := ⟨_, rfl⟩
    have hsr : (Instr.storeAt 98 (.pointer (some ⟨h, 0, none⟩)) (.agg (ofI s.most).toArray)).run Try.prog (X.alloc (.cells #[.int .i64 0, .int .i64 0, .int .i64 0, .int .i64 0, .int .i64 0, .int .i64 0, .int .i64 0, .int .i64 0, .int .i64 0, .int .i64 0, .int .i64 0, .int .i64 0, .int .i64 0, .int .i64 0, .int .i64 0, .int .i64 0, .int .i64 0] 98)) = .ok () (X.alloc (.cells (ofI s.most).toArray 98)) := by
      rw [← hh]
      exact run_storeAt_new X 98 #[.int .i64 0, .int .i64 0, .int .i64 0, .int .i64 0, .int .i64 0, .int .i64 0, .int .i64 0, .int .i64 0, .int .i64 0, .int .i64 0, .int .i64 0, .int .i64 0, .int .i64 0, .int .i64 0, .int .i64 0, .int .i64 0, .int .i64 0] (ofI s.most).toArray (by rw [row_size]; simp [ofI_len, hst.lk.2]) (by simp [ofI_len, hst.lk.2]) (all_oneCell_toArray fun v hv => by unfold ofI at hv; obtain ⟨x, _, rfl⟩ := List.mem_map.1 hv; rfl)
    have HSR := Lib.hid hsr
    have HSL := Lib.hid (show s.most.length = 17 from HST.out.lk.2)
    clear hK hst hBX lz hsr
    go_upto_region 5 with (first | refine wpList_load_mid rfl 98 (.tmp 25) rfl gl 0 rfl (ofI s.most) _ HRW.out row_under rfl HSZ.out ?_ | refine wpList_store_run rfl 98 (.tmp 5) (.tmp 26) rfl HSR.out ?_)
    have ha1 : Below X.heap.size X (X.alloc (.cells (ofI s.most).toArray 98)) := Below.alloc (Below.refl _ _) (Nat.le_refl _) _
    have b5 : BK (X.alloc (.cells (ofI s.most).toArray 98)) h (ofI s.most).toArray 98 := BK.new' _ _ _ h hh
    have hst1 := HST.out.adm (Adm.below (B := n + 3) ha1) (by omega) (by omega) hn
    have hMk1 : Marks Ds (X.alloc (.cells (ofI s.most).toArray 98)) := ⟨hMk.1, fun D h => by rw [ha1.block D (Array.getElem?_eq_some_iff.1 (hMk.2 D h)).1]; exact hMk.2 D h⟩
    have hS1 : (X.alloc (.cells (ofI s.most).toArray 98)).heap.size = h + 1 := by simp [hh]
    have hDh : ∀ D ∈ Ds, D < h := fun D hD => by have := (Array.getElem?_eq_some_iff.1 (hMk.2 D hD)).1; omega
    have hnh : n + 2 < h := by have := HST.out.mp.lt; omega
    clear HST HBX HRW HSZ HSR y3 l3 y2 l2 lgl hMk
    generalize X.alloc (.cells (ofI s.most).toArray 98) = X1 at *
    clear ha1 hh
    have y2 := hst1.b2.cell 0
    have l2 := hst1.b2.lt
    simp at y2
    have l2' : n < h + 1 := by omega
    have HST := Lib.hid hst1
    have HMK := Lib.hid hMk1
    have HDH := Lib.hid hDh
    have HDS := Lib.hid hDs
    clear hst1 hMk1 hDh hDs
    go_wp2_with fail
    refine (links_any _ _).mono ?_
    rintro e w1 ⟨rfl, hw1⟩
    have hX2 : Below X1.heap.size X1 w1 := by rw [← hw1]; exact bel_of
    have b6 : BK w1 (h + 1) #[.int .i64 (-1)] 3 := by rw [← hw1]; exact (BK.new' _ _ _ (h + 1) hS1).alloc _
    have b7 : BK w1 (h + 2) #[.pointer (some ⟨gb, 0, none⟩)] 80 := by rw [← hw1]; exact BK.new' _ _ _ (h + 2) (by simp [hS1])
    have hS2 : w1.heap.size = h + 3 := by rw [← hw1]; simp [hS1]
    have hst2 := HST.out.adm (Adm.below (B := n + 3) hX2) (by omega) (by omega) hn
    have hMk2 : Marks Ds w1 := ⟨HMK.out.1, fun D h => by rw [hX2.block D (Array.getElem?_eq_some_iff.1 (HMK.out.2 D h)).1]; exact HMK.out.2 D h⟩
    replace b5 := b5.below hX2 b5.lt
    have hqn : (X1.alloc (.cells #[.int .i64 (-1)] 3)).heap.size = h + 2 := by simp [hS1]
    clear hX2 HST HMK y2 l2 hw1
    rw [hqn]
    clear hqn hS1
    go_wp2_with fail
    refine wp_range_a (gf := 85) (lb := #[.pointer (some ⟨h + 2, 0, none⟩)]) rfl eg85 (links_iter (fun _ => False) (fun hf => hf) (h + 2) gb E vt ts bel top asks ho (by omega)) (fun _ => rfl)
      (fun j Y => RxI w gb gl n s (sJ E (lks E ts (qOf bel asks) top) s j) zz (i * 128 + j) h Ds Y)
      (fun _ _ _ => False)
      (fun tm j a' Y => RxI w gb gl n s (sJ E (lks E ts (qOf bel asks) top) s j) zz (i * 128 + j) h Ds Y ∧ ∃ bx, h + 3 ≤ bx ∧ BK Y bx #[.int .i64 (nthW (lks E ts (qOf bel asks) top) j).1.src, .int .i64 (nthW (lks E ts (qOf bel asks) top) j).1.dst, .int .i64 (nthW (lks E ts (qOf bel asks) top) j).1.tst] 44 ∧
        a' = { tmps := (((tm.setIfInBounds 29 (.agg #[.int .i64 (nthW (lks E ts (qOf bel asks) top) j).1.src, .int .i64 (nthW (lks E ts (qOf bel asks) top) j).1.dst, .int .i64 (nthW (lks E ts (qOf bel asks) top) j).1.tst])).setIfInBounds 30 (.int .i64 (nthW (lks E ts (qOf bel asks) top) j).2)).setIfInBounds 7 (.pointer (some ⟨bx, 0, none⟩))).setIfInBounds 8 (.int .i64 (nthW (lks E ts (qOf bel asks) top) j).2), defers := [] })
      ?rounds ?mem ?start ?done ?stop
    case stop => rintro D c j Y hD hj hf; exact hf.elim
    case mem =>
      rintro j Y hI
      obtain ⟨nn', hst⟩ := hI.st
      exact ⟨by have := hI.b7.cell 0; simpa using this, hst.bench hB hR hgb⟩
    case start => exact ⟨⟨nn, by rw [sJ_0]; exact ⟨hst2.lk, hst2.mp, hst2.few, hst2.below, hst2.b2, hst2.b3, hst2.bd⟩⟩, b5, by rw [sJ_0]; exact b6, b7, hMk2, by omega⟩
    case done =>
      rintro D Y hD hI hDY
      have hs2 := sJ_all (E := E) (s := s) (lks_len E ts (qOf bel asks) top)
      rw [hs2] at hI
      rw [hS2] at hD
      clear hs2
      have hrk := HRK.out.trans (relaxK_succ E (lks E ts (qOf bel asks) top) m zz s)
      generalize roundK E (lks E ts (qOf bel asks) top) s = s2 at *
      obtain ⟨nn2, hst⟩ := hI.st
      have hLc : atE ts (qOf bel asks) top E ≤ 128 := by rw [← lks_len]; exact HLn.out
      have I5 := hI.b5
      have I6 := hI.b6
      have I8 := hI.mks
      have I9 := hI.size
      have hsl : s.most.length = 17 := by
        have := I5
        have hq := (HSL).out
        exact hq
      have heq := fun W => eqRow s2.most s.most hst.lk.2 hsl W
      have hrow := hst.lk.row
      have hro5 : Y.rangeAt h 0 (ofI s.most) := by
        have := World.rangeAt_of_block (w := Y) I5 0 (ofI s.most).length
        simpa using this
      have z2 : (Try.prog.info? 98).map (·.size) = some (ofI s2.most).length := by rw [row_size, ofI_len, hst.lk.2]
      have z5 : (Try.prog.info? 98).map (·.size) = some (ofI s.most).length := by rw [row_size, ofI_len, hsl]
      have HZ2 := Lib.hid z2
      have HZ5 := Lib.hid z5
      have HRo := Lib.hid hrow
      have HR5 := Lib.hid hro5
      clear hrow hro5 z2 z5
      have y3 := hst.b3.cell 0
      have l3 := hst.b3.lt
      have lgl := hst.lk.lt
      have lsz := hst.lk.size_
      have fsz := hst.lk.frozen 18
      have e6 := I6.cell 0
      have l6 := I6.lt
      have l5 := I5.lt
      simp at y3 e6
      have HST := Lib.hid hst
      have HDY := Lib.hid hDY
      have HRK2 := Lib.hid hrk
      have HI := Lib.hid hI
      clear hst hDY hrk hI hst2 hMk2 b5 b6 b7
      have hDn : D ∉ Ds := fun hm => by have := HDH.out D hm; omega
      have hMk : Marks (D :: Ds) Y := ⟨List.nodup_cons.2 ⟨hDn, I8.1⟩, fun D' h' => by
        rcases List.mem_cons.1 h' with rfl | h'
        · exact HDY.out
        · exact I8.2 D' h'⟩
      have HMK := Lib.hid hMk
      clear hMk
      go_wp2_with fail
      have hd1 : Below Y.heap.size Y Y.drew := Below.drew (Below.refl _ _)
      refine wp_region_noPanic (plain_any [0, 1, 2, 3, 4, 5] (Below Y.heap.size Y) mixed ?_)
      (refine any_take 0 ?_ (by rfl) (by kernel_rfl) (fun _ _ _ _ _ hx => hx.elim) (.inl ⟨by rfl, ?_⟩) (by with_reducible assumption) ?_; rotate_left; (intro X hX; obtain ⟨r1, r2⟩ := Below.rules hX; clear hX; go_simp; rfl); simp only [List.getElem_toArray, List.getElem_cons_succ, List.getElem_cons_zero, Act.put, List.setIfInBounds_toArray, List.set_cons_succ, List.set_cons_zero])
      (refine any_take 1 ?_ (by rfl) (by kernel_rfl) (fun _ _ _ _ _ hx => hx.elim) (.inl ⟨by rfl, ?_⟩) (by with_reducible assumption) ?_; rotate_left; (intro X hX; obtain ⟨r1, r2⟩ := Below.rules hX; clear hX; go_simp; rfl); simp only [List.getElem_toArray, List.getElem_cons_succ, List.getElem_cons_zero, Act.put, List.setIfInBounds_toArray, List.set_cons_succ, List.set_cons_zero])
      (refine any_take 2 ?_ (by rfl) (by kernel_rfl) (fun _ _ _ _ _ hx => hx.elim) (.inl ⟨by rfl, ?_⟩) (by with_reducible assumption) ?_; rotate_left; (intro X hX; obtain ⟨r1, r2⟩ := Below.rules hX; clear hX; go_simp; rfl); simp only [List.getElem_toArray, List.getElem_cons_succ, List.getElem_cons_zero, Act.put, List.setIfInBounds_toArray, List.set_cons_succ, List.set_cons_zero])
      refine any_take 3 (.agg (ofI s2.most).toArray) (by rfl) (by kernel_rfl) (fun _ _ _ _ _ hx => hx.elim) (yieldsIf_load_mid rfl 98 (.tmp 90) rfl gl 0 rfl (ofI s2.most) _ (fun W hW => fun j v hv => by have := HRo.out j v hv; rw [hW.cell (by exact lgl)]; exact this) row_under rfl HZ2.out) (by with_reducible assumption) ?_
      simp only [List.getElem_toArray, List.getElem_cons_succ, List.getElem_cons_zero, Act.put, List.setIfInBounds_toArray, List.set_cons_succ, List.set_cons_zero]
      refine any_take 4 (.agg (ofI s.most).toArray) (by rfl) (by kernel_rfl) (fun _ _ _ _ _ hx => hx.elim) (yieldsIf_load_mid rfl 98 (.tmp 5) rfl h 0 rfl (ofI s.most) _ (fun W hW => fun j v hv => by have := HR5.out j v hv; rw [hW.cell (by exact l5)]; exact this) row_under rfl HZ5.out) (by with_reducible assumption) ?_
      simp only [List.getElem_toArray, List.getElem_cons_succ, List.getElem_cons_zero, Act.put, List.setIfInBounds_toArray, List.set_cons_succ, List.set_cons_zero]
      (refine any_take 5 ?_ (by rfl) (by kernel_rfl) (fun _ _ _ _ _ hx => hx.elim) (.inl ⟨by rfl, ?_⟩) (by with_reducible assumption) ?_; rotate_left; (intro X hX; obtain ⟨r1, r2⟩ := Below.rules hX; clear hX; go_simp; rfl); simp only [List.getElem_toArray, List.getElem_cons_succ, List.getElem_cons_zero, Act.put, List.setIfInBounds_toArray, List.set_cons_succ, List.set_cons_zero])
      refine any_done (by kernel_rfl) (NoPanic.normal ?_)
      by_cases hsame : s2.most = s.most
      · have d1 : decide (s2.most = s.most) = true := decide_eq_true hsame
        have HSM := Lib.hid hsame
        clear hsame heq
        go_wp2_with fail
        refine leave_all (D :: Ds) Y.drew ⟨HMK.out.1, fun D' h' => HMK.out.2 D' h'⟩ (v := .int .i64 (-1)) (fun W' => by simp [results, Try.results78, go_sem]) ?_
        have e := HRK2.out
        rw [if_pos HSM.out] at e
        rw [e]
        have hst := HST.out
        have hdd : ∀ D' ∈ D :: Ds, n + 2 < D' := fun D' h' => by
          rcases List.mem_cons.1 h' with rfl | h'
          · omega
          · exact HDS.out D' h'
        refine ⟨rfl, n + 2, nn2, zz, hst.lk.same (putAll_other (D :: Ds) Y.drew gl (fun h => by have := hdd gl h; omega)), hst.mp.kept (putAll_other (D :: Ds) Y.drew (n + 2) (fun h => by have := hdd (n + 2) h; omega)), putAll_below (D :: Ds) Y.drew (Below.drew hst.below) (fun D h => by have := hdd D h; omega), by omega⟩
      · have d1 : decide (s2.most = s.most) = false := decide_eq_false hsame
        have HSM := Lib.hid hsame
        clear hsame heq
        go_wp2_with fail
        have hst := HST.out
        have hrk := HRK2.out
        rw [if_neg HSM.out] at hrk
        have hoth : ∀ k, k ≠ gl → (Y.setCell ⟨gl, 18, none⟩ (.int .i64 s2.chg)).heap[k]? = Y.heap[k]? := fun k hk => Below.heap_setCell Y _ _ _ (by show k ≠ gl; exact hk)
        refine HK.out m _ _ (by omega) rfl ⟨D :: Ds, i + 1, s2, s2.chg, nn2, rfl, by omega, ⟨rfl, rfl, rfl, by show Value.int .i64 ((i : Int) + 1) = _; rw [show (i : Int) + 1 = ((i + 1 : Nat) : Int) by omega]⟩, ⟨HMK.out.1, fun D' h' => ?_⟩, fun D' h' => ?_, hrk, ?_⟩
        · refine (hoth D' ?_).trans (HMK.out.2 D' h')
          rcases List.mem_cons.1 h' with rfl | h'
          · omega
          · have := HDS.out D' h'; omega
        · rcases List.mem_cons.1 h' with rfl | h'
          · omega
          · exact HDS.out D' h'
        · exact ⟨hst.lk.setSize _, hst.mp.kept (hoth (n + 2) (by omega)), by have := hst.few; omega, Below.drew (Below.setCell hst.below (Nat.le_refl _) _), (hoth n (by omega)).trans hst.b2, (hoth (n + 1) (by omega)).trans hst.b3, fun v => by have := hst.bd v; omega⟩
    case rounds =>
      rw [hS2]
      refine ⟨?_, fun c i A A' h _ => h, ?_, fun i X h => h.size, ?_, ?_⟩
      · rintro j Y Z hI ha
        exact hI.adm ha (by omega) (by omega) hn (fun D hD => by have := HDH.out D hD; omega)
      · rintro j a Y Z ⟨hI, bx, q1, q2, q3⟩ ha
        exact ⟨hI.adm ha (by omega) (by omega) hn (fun D hD => by have := HDH.out D hD; omega), bx, q1, ha.cells q2, q3⟩
      · rintro lq j Y hj hI K2 hK2
        have hb1 : Below Y.heap.size Y (Y.alloc (.cells #[.int .i64 (nthW (lks E ts (qOf bel asks) top) j).1.src, .int .i64 (nthW (lks E ts (qOf bel asks) top) j).1.dst, .int .i64 (nthW (lks E ts (qOf bel asks) top) j).1.tst] 44)) := by exact bel_of
        have hsz := hI.size
        have hK3 := hK2 _ (Y.alloc (.cells #[.int .i64 (nthW (lks E ts (qOf bel asks) top) j).1.src, .int .i64 (nthW (lks E ts (qOf bel asks) top) j).1.dst, .int .i64 (nthW (lks E ts (qOf bel asks) top) j).1.tst] 44)) ((Kept.refl _ _ _).below hb1)
          ⟨hI.adm (Adm.below (B := h + 3) hb1) (by omega) (by omega) hn (fun D hD => by have := HDH.out D hD; omega), Y.heap.size, hsz, BK.new _ _ _, rfl⟩
        simp only [List.setIfInBounds_toArray, List.set_cons_succ, List.set_cons_zero] at hK3
        have HK3 := Lib.hid hK3
        clear hK3 hK2 hI
        unfold klV
        gi_wp2_with fail
        exact HK3.out
      · rintro lq j a' Y hj hlq ⟨r, hr⟩ ⟨hI, bx, hbx, hbk, rfl⟩
        simp only [List.setIfInBounds_toArray, List.set_cons_succ, List.set_cons_zero]
        have hjL : j < (lks E ts (qOf bel asks) top).length := by rw [lks_len]; exact hj
        have hsu := sJ_succ (E := E) (s := s) hjL
        have hmem := nthW_mem hjL
        obtain ⟨nn1, hst⟩ := hI.st
        have hokl := okl (q := qOf bel asks) ho ht (init := (sJ E (lks E ts (qOf bel asks) top) s j).most) hst.lk.2
        have huv := hokl.2 _ hmem
        have hrn := lks_rng ho hmem
        have hj128 : j < 128 := by have := HLn.out; omega
        have I5 := hI.b5
        have I6 := hI.b6
        have I7 := hI.b7
        have I8 := hI.mks
        have I9 := hI.size
        obtain ⟨s2, hs2e⟩ : ∃ s2, sJ E (lks E ts (qOf bel asks) top) s (j + 1) = s2 := ⟨_, rfl⟩
        rw [hs2e] at hsu
        have S2E := Lib.hid hs2e
        clear hs2e
        generalize sJ E (lks E ts (qOf bel asks) top) s j = s1 at *
        obtain ⟨hu, hv⟩ := huv
        have hbx0 : bx ≠ h + 1 ∧ bx ≠ gl ∧ bx ≠ n + 2 := by omega
        generalize nthW (lks E ts (qOf bel asks) top) j = kk at *
        obtain ⟨⟨src, dst, tst⟩, cc⟩ := kk
        dsimp only at hbk hrn ⊢
        have hu0 : pl E src ≤ E := hu
        have hv0 : pl E dst ≤ E := hv
        have hfr : fires E s1 (⟨src, dst, tst⟩, cc) ↔ nthI s1.most (pl E src) < 1099511627776 ∧ nthI s1.most (pl E src) + cc < nthI s1.most (pl E dst) := Iff.rfl
        have hsu2 : s2 = if fires E s1 (⟨src, dst, tst⟩, cc) then ⟨s1.most.set (pl E dst) (nthI s1.most (pl E src) + cc), fun x => if x = pl E dst then some (⟨src, dst, tst⟩, cc) else s1.by_ x, pl E dst⟩ else s1 := hsu
        have hBX := hst.bench hB hR hgb
        have hbdu := hst.bd (pl E src)
        have hbdv := hst.bd (pl E dst)
        have cu := hst.lk.at (i := pl E src) (by omega)
        have cv := hst.lk.at (i := pl E dst) (by omega)
        have fv := hst.lk.frozen (pl E dst)
        have cm := hst.lk.map_
        have lgl := hst.lk.lt
        have y2 := hst.b2.cell 0
        have l2 := hst.b2.lt
        have y3 := hst.b3.cell 0
        have l3 := hst.b3.lt
        have x0 := hbk.cell 0
        have x1 := hbk.cell 1
        have x2 := hbk.cell 2
        have lx := hbk.lt
        simp at y2 y3 x0 x1 x2
        have e6 := I6.cell 0
        have f6 := I6.frozen 0
        have l6 := I6.lt
        simp at e6
        have FR := Lib.hid hfr
        have SU := Lib.hid hsu2
        have ST := Lib.hid hst
        have HBX := Lib.hid hBX
        have HBK := Lib.hid hbk
        clear hfr hsu2 hsu hst hBX hbk hokl hI hmem hu hv
        have hd0 : Below Y.heap.size Y Y := Below.refl _ _
        have hd1 : Below Y.heap.size Y Y.drew := Below.drew hd0
        have hd2 : Below Y.heap.size Y Y.drew.drew := Below.drew hd1
        have hd3 : Below Y.heap.size Y Y.drew.drew.drew := Below.drew hd2
        gi_wp2_with fail
        refine round_any [0, 1, 2, 4, 5, 6] (Below Y.heap.size Y) mixed (by kernel_rfl) ?_ ?_
        · rintro ⟨_, _, hx⟩; exact hx
        refine any_take 0 ?_ (by rfl) (by kernel_rfl) (fun _ _ _ _ _ hx => hx) (.inl ⟨by rfl, ?_⟩) (by with_reducible assumption) ?_; rotate_left; (intro Z hZ; obtain ⟨r1, r2⟩ := Below.rules hZ; clear hZ; go_simp; rfl); simp only [List.getElem_toArray, List.getElem_cons_succ, List.getElem_cons_zero, Act.put, List.setIfInBounds_toArray, List.set_cons_succ, List.set_cons_zero]
        refine any_take 1 ?_ (by rfl) (by kernel_rfl) (fun _ _ _ _ _ hx => hx) (.inl ⟨by rfl, ?_⟩) (by with_reducible assumption) ?_; rotate_left; (intro Z hZ; obtain ⟨r1, r2⟩ := Below.rules hZ; clear hZ; go_simp; rfl); simp only [List.getElem_toArray, List.getElem_cons_succ, List.getElem_cons_zero, Act.put, List.setIfInBounds_toArray, List.set_cons_succ, List.set_cons_zero]
        refine any_take 2 ?_ (by rfl) (by kernel_rfl) (fun _ _ _ _ _ hx => hx) (.inl ⟨by rfl, ?_⟩) (by with_reducible assumption) ?_; rotate_left; (intro Z hZ; obtain ⟨r1, r2⟩ := Below.rules hZ; clear hZ; go_simp; rfl); simp only [List.getElem_toArray, List.getElem_cons_succ, List.getElem_cons_zero, Act.put, List.setIfInBounds_toArray, List.set_cons_succ, List.set_cons_zero]
        refine any_take 4 ?_ (by rfl) (by kernel_rfl) (fun _ _ _ _ _ hx => hx) (.inl ⟨by rfl, ?_⟩) (by with_reducible assumption) ?_; rotate_left; (intro Z hZ; obtain ⟨r1, r2⟩ := Below.rules hZ; clear hZ; go_simp; rfl); simp only [List.getElem_toArray, List.getElem_cons_succ, List.getElem_cons_zero, Act.put, List.setIfInBounds_toArray, List.set_cons_succ, List.set_cons_zero]
        refine any_take 5 ?_ (by rfl) (by kernel_rfl) (fun _ _ _ _ _ hx => hx) (.inl ⟨by rfl, ?_⟩) (by with_reducible assumption) ?_; rotate_left; (intro Z hZ; obtain ⟨r1, r2⟩ := Below.rules hZ; clear hZ; go_simp; rfl); simp only [List.getElem_toArray, List.getElem_cons_succ, List.getElem_cons_zero, Act.put, List.setIfInBounds_toArray, List.set_cons_succ, List.set_cons_zero]
        refine any_take 6 ?_ (by rfl) (by kernel_rfl) (fun _ _ _ _ _ hx => hx) (.inl ⟨by rfl, ?_⟩) (by with_reducible assumption) ?_; rotate_left; (intro Z hZ; obtain ⟨r1, r2⟩ := Below.rules hZ; clear hZ; go_simp; rfl); simp only [List.getElem_toArray, List.getElem_cons_succ, List.getElem_cons_zero, Act.put, List.setIfInBounds_toArray, List.set_cons_succ, List.set_cons_zero]
        refine any_run1 (i := 3) (by kernel_rfl) (by rfl) (by kernel_rfl) ?_
        intro K3 hK3
        go_wp2_with fail
        refine (place_any E _ ts bel top asks gb _ _ (HBX.out.below hd1)).mono ?_
        rintro e w2 ⟨rfl, rfl⟩
        refine hK3 _ _ (fun _ => hd1) ?_
        clear hK3 K3
        refine any_run1 (i := 7) (by kernel_rfl) (by rfl) (by kernel_rfl) ?_
        intro K3 hK3
        go_wp2_with fail
        refine (place_any E _ ts bel top asks gb _ _ (HBX.out.below hd1)).mono ?_
        rintro e w2 ⟨rfl, rfl⟩
        refine hK3 _ _ (fun _ => hd1) ?_
        clear hK3 K3
        refine any_run1 (i := 8) (by kernel_rfl) (by rfl) (by kernel_rfl) ?_
        intro K3 hK3
        go_wp2_with fail
        refine hK3 _ _ (fun _ => hd1) ?_
        clear hK3 K3
        refine any_run1 (i := 9) (by kernel_rfl) (by rfl) (by kernel_rfl) ?_
        intro K3 hK3
        go_wp2_with fail
        refine hK3 _ _ (fun _ => hd1) ?_
        clear hK3 K3
        refine any_done (by kernel_rfl) ?_
        generalize pl E src = uu at *
        generalize pl E dst = vv at *
        generalize nthI s1.most uu = mu at *
        generalize nthI s1.most vv = mv2 at *
        have hu17 : (uu : Int) < 17 := by omega
        have hv17 : (vv : Int) < 17 := by omega
        have hfar : (1099511627776 : Int) = far := rfl
        have ww : IntKind.i64.wrap (mu + cc) = mu + cc := by rw [IntKind.wrap_i64]; omega
        clear hfar
        gi_wp2_with fail
        by_cases c1 : mu < 1099511627776
        case neg =>
          have d1 : decide (mu < 1099511627776) = false := decide_eq_false c1
          refine round_any [0, 1, 2, 3, 4, 5, 6, 7, 8, 9, 10, 11, 12, 13, 14, 15, 16, 17, 18, 19, 20, 21, 22, 23] (Below Y.heap.size Y) mixed (by kernel_rfl) ?_ ?_
          · rintro ⟨_, _, hx⟩; exact hx
          refine any_take 0 ?_ (by rfl) (by kernel_rfl) (fun _ _ _ _ _ hx => hx) (.inl ⟨by rfl, ?_⟩) (by with_reducible assumption) ?_; rotate_left; (intro Z hZ; obtain ⟨r1, r2⟩ := Below.rules hZ; clear hZ; go_simp; rfl); simp only [List.getElem_toArray, List.getElem_cons_succ, List.getElem_cons_zero, Act.put, List.setIfInBounds_toArray, List.set_cons_succ, List.set_cons_zero]
          refine any_take 1 ?_ (by rfl) (by kernel_rfl) (fun _ _ _ _ _ hx => hx) (.inl ⟨by rfl, ?_⟩) (by with_reducible assumption) ?_; rotate_left; (intro Z hZ; obtain ⟨r1, r2⟩ := Below.rules hZ; clear hZ; go_simp; rfl); simp only [List.getElem_toArray, List.getElem_cons_succ, List.getElem_cons_zero, Act.put, List.setIfInBounds_toArray, List.set_cons_succ, List.set_cons_zero]
          refine any_take 2 ?_ (by rfl) (by kernel_rfl) (fun _ _ _ _ _ hx => hx) (.inl ⟨by rfl, ?_⟩) (by with_reducible assumption) ?_; rotate_left; (intro Z hZ; obtain ⟨r1, r2⟩ := Below.rules hZ; clear hZ; go_simp; rfl); simp only [List.getElem_toArray, List.getElem_cons_succ, List.getElem_cons_zero, Act.put, List.setIfInBounds_toArray, List.set_cons_succ, List.set_cons_zero]
          refine any_take 3 ?_ (by rfl) (by kernel_rfl) (fun _ _ _ _ _ hx => hx) (.inl ⟨by rfl, ?_⟩) (by with_reducible assumption) ?_; rotate_left; (intro Z hZ; obtain ⟨r1, r2⟩ := Below.rules hZ; clear hZ; go_simp; rfl); simp only [List.getElem_toArray, List.getElem_cons_succ, List.getElem_cons_zero, Act.put, List.setIfInBounds_toArray, List.set_cons_succ, List.set_cons_zero]
          refine any_take 4 ?_ (by rfl) (by kernel_rfl) (fun _ _ _ _ _ hx => hx) (.inl ⟨by rfl, ?_⟩) (by with_reducible assumption) ?_; rotate_left; (intro Z hZ; obtain ⟨r1, r2⟩ := Below.rules hZ; clear hZ; go_simp; rfl); simp only [List.getElem_toArray, List.getElem_cons_succ, List.getElem_cons_zero, Act.put, List.setIfInBounds_toArray, List.set_cons_succ, List.set_cons_zero]
          refine any_take 5 ?_ (by rfl) (by kernel_rfl) (fun _ _ _ _ _ hx => hx) (.inl ⟨by rfl, ?_⟩) (by with_reducible assumption) ?_; rotate_left; (intro Z hZ; obtain ⟨r1, r2⟩ := Below.rules hZ; clear hZ; go_simp; rfl); simp only [List.getElem_toArray, List.getElem_cons_succ, List.getElem_cons_zero, Act.put, List.setIfInBounds_toArray, List.set_cons_succ, List.set_cons_zero]
          refine any_take 6 ?_ (by rfl) (by kernel_rfl) (fun _ _ _ _ _ hx => hx) (.inl ⟨by rfl, ?_⟩) (by with_reducible assumption) ?_; rotate_left; (intro Z hZ; obtain ⟨r1, r2⟩ := Below.rules hZ; clear hZ; go_simp; rfl); simp only [List.getElem_toArray, List.getElem_cons_succ, List.getElem_cons_zero, Act.put, List.setIfInBounds_toArray, List.set_cons_succ, List.set_cons_zero]
          refine any_take 7 ?_ (by rfl) (by kernel_rfl) (fun _ _ _ _ _ hx => hx) (.inl ⟨by rfl, ?_⟩) (by with_reducible assumption) ?_; rotate_left; (intro Z hZ; obtain ⟨r1, r2⟩ := Below.rules hZ; clear hZ; go_simp; rfl); simp only [List.getElem_toArray, List.getElem_cons_succ, List.getElem_cons_zero, Act.put, List.setIfInBounds_toArray, List.set_cons_succ, List.set_cons_zero]
          refine any_take 8 undef (by rfl) (by kernel_rfl) (fun _ _ _ _ _ hx => hx) (.inr ⟨by rfl, by rfl⟩) (by with_reducible assumption) ?_; simp only [List.getElem_toArray, List.getElem_cons_succ, List.getElem_cons_zero, Act.put, List.setIfInBounds_toArray, List.set_cons_succ, List.set_cons_zero]
          refine any_take 9 undef (by rfl) (by kernel_rfl) (fun _ _ _ _ _ hx => hx) (.inr ⟨by rfl, by rfl⟩) (by with_reducible assumption) ?_; simp only [List.getElem_toArray, List.getElem_cons_succ, List.getElem_cons_zero, Act.put, List.setIfInBounds_toArray, List.set_cons_succ, List.set_cons_zero]
          refine any_take 10 undef (by rfl) (by kernel_rfl) (fun _ _ _ _ _ hx => hx) (.inr ⟨by rfl, by rfl⟩) (by with_reducible assumption) ?_; simp only [List.getElem_toArray, List.getElem_cons_succ, List.getElem_cons_zero, Act.put, List.setIfInBounds_toArray, List.set_cons_succ, List.set_cons_zero]
          refine any_take 11 undef (by rfl) (by kernel_rfl) (fun _ _ _ _ _ hx => hx) (.inr ⟨by rfl, by rfl⟩) (by with_reducible assumption) ?_; simp only [List.getElem_toArray, List.getElem_cons_succ, List.getElem_cons_zero, Act.put, List.setIfInBounds_toArray, List.set_cons_succ, List.set_cons_zero]
          refine any_take 12 undef (by rfl) (by kernel_rfl) (fun _ _ _ _ _ hx => hx) (.inr ⟨by rfl, by rfl⟩) (by with_reducible assumption) ?_; simp only [List.getElem_toArray, List.getElem_cons_succ, List.getElem_cons_zero, Act.put, List.setIfInBounds_toArray, List.set_cons_succ, List.set_cons_zero]
          refine any_take 13 undef (by rfl) (by kernel_rfl) (fun _ _ _ _ _ hx => hx) (.inr ⟨by rfl, by rfl⟩) (by with_reducible assumption) ?_; simp only [List.getElem_toArray, List.getElem_cons_succ, List.getElem_cons_zero, Act.put, List.setIfInBounds_toArray, List.set_cons_succ, List.set_cons_zero]
          refine any_take 14 undef (by rfl) (by kernel_rfl) (fun _ _ _ _ _ hx => hx) (.inr ⟨by rfl, by rfl⟩) (by with_reducible assumption) ?_; simp only [List.getElem_toArray, List.getElem_cons_succ, List.getElem_cons_zero, Act.put, List.setIfInBounds_toArray, List.set_cons_succ, List.set_cons_zero]
          refine any_take 15 undef (by rfl) (by kernel_rfl) (fun _ _ _ _ _ hx => hx) (.inr ⟨by rfl, by rfl⟩) (by with_reducible assumption) ?_; simp only [List.getElem_toArray, List.getElem_cons_succ, List.getElem_cons_zero, Act.put, List.setIfInBounds_toArray, List.set_cons_succ, List.set_cons_zero]
          refine any_take 16 undef (by rfl) (by kernel_rfl) (fun _ _ _ _ _ hx => hx) (.inr ⟨by rfl, by rfl⟩) (by with_reducible assumption) ?_; simp only [List.getElem_toArray, List.getElem_cons_succ, List.getElem_cons_zero, Act.put, List.setIfInBounds_toArray, List.set_cons_succ, List.set_cons_zero]
          refine any_take 17 undef (by rfl) (by kernel_rfl) (fun _ _ _ _ _ hx => hx) (.inr ⟨by rfl, by rfl⟩) (by with_reducible assumption) ?_; simp only [List.getElem_toArray, List.getElem_cons_succ, List.getElem_cons_zero, Act.put, List.setIfInBounds_toArray, List.set_cons_succ, List.set_cons_zero]
          refine any_take 18 undef (by rfl) (by kernel_rfl) (fun _ _ _ _ _ hx => hx) (.inr ⟨by rfl, by rfl⟩) (by with_reducible assumption) ?_; simp only [List.getElem_toArray, List.getElem_cons_succ, List.getElem_cons_zero, Act.put, List.setIfInBounds_toArray, List.set_cons_succ, List.set_cons_zero]
          refine any_take 19 undef (by rfl) (by kernel_rfl) (fun _ _ _ _ _ hx => hx) (.inr ⟨by rfl, by rfl⟩) (by with_reducible assumption) ?_; simp only [List.getElem_toArray, List.getElem_cons_succ, List.getElem_cons_zero, Act.put, List.setIfInBounds_toArray, List.set_cons_succ, List.set_cons_zero]
          refine any_take 20 undef (by rfl) (by kernel_rfl) (fun _ _ _ _ _ hx => hx) (.inr ⟨by rfl, by rfl⟩) (by with_reducible assumption) ?_; simp only [List.getElem_toArray, List.getElem_cons_succ, List.getElem_cons_zero, Act.put, List.setIfInBounds_toArray, List.set_cons_succ, List.set_cons_zero]
          refine any_take 21 undef (by rfl) (by kernel_rfl) (fun _ _ _ _ _ hx => hx) (.inr ⟨by rfl, by rfl⟩) (by with_reducible assumption) ?_; simp only [List.getElem_toArray, List.getElem_cons_succ, List.getElem_cons_zero, Act.put, List.setIfInBounds_toArray, List.set_cons_succ, List.set_cons_zero]
          refine any_take 22 undef (by rfl) (by kernel_rfl) (fun _ _ _ _ _ hx => hx) (.inr ⟨by rfl, by rfl⟩) (by with_reducible assumption) ?_; simp only [List.getElem_toArray, List.getElem_cons_succ, List.getElem_cons_zero, Act.put, List.setIfInBounds_toArray, List.set_cons_succ, List.set_cons_zero]
          refine any_take 23 ?_ (by rfl) (by kernel_rfl) (fun _ _ _ _ _ hx => hx) (.inl ⟨by rfl, ?_⟩) (by with_reducible assumption) ?_; rotate_left; (intro Z hZ; obtain ⟨r1, r2⟩ := Below.rules hZ; clear hZ; go_simp; rfl); simp only [List.getElem_toArray, List.getElem_cons_succ, List.getElem_cons_zero, Act.put, List.setIfInBounds_toArray, List.set_cons_succ, List.set_cons_zero]
          refine any_done (by kernel_rfl) ?_
          gi_wp2_with fail
          have hs2 : s2 = s1 := SU.out.trans (if_neg (fun hf => by have := FR.out.1 hf; omega))
          show Kept (fun _ => False) (h + 3) Y _ ∧ RxI w gb gl n s (sJ E (lks E ts (qOf bel asks) top) s (j + 1)) zz (i * 128 + (j + 1)) h Ds _
          rw [S2E.out, hs2]
          have hYd : Below Y.heap.size Y Y.drew.drew := hd2
          refine ⟨((Kept.refl _ _ _).drew).drew, ⟨nn1, ?_⟩, I5, I6, I7, ⟨I8.1, fun D hD => I8.2 D hD⟩, I9⟩
          have h0 := ST.out
          exact ⟨h0.lk, h0.mp.kept rfl, by have := h0.few; omega, Below.drew (Below.drew h0.below), h0.b2, h0.b3, fun v => by have := h0.bd v; omega⟩
        have d1 : decide (mu < 1099511627776) = true := decide_eq_true c1
        by_cases c2 : mu + cc < mv2
        case neg =>
          have d2 : decide (mu + cc < mv2) = false := decide_eq_false c2
          refine round_any [0, 1, 2, 3, 4, 5, 6, 7, 8, 9, 10, 11, 12, 13, 14, 15, 16, 17, 18, 19, 20, 21, 22, 23] (Below Y.heap.size Y) mixed (by kernel_rfl) ?_ ?_
          · rintro ⟨_, _, hx⟩; exact hx
          refine any_take 0 ?_ (by rfl) (by kernel_rfl) (fun _ _ _ _ _ hx => hx) (.inl ⟨by rfl, ?_⟩) (by with_reducible assumption) ?_; rotate_left; (intro Z hZ; obtain ⟨r1, r2⟩ := Below.rules hZ; clear hZ; go_simp; rfl); simp only [List.getElem_toArray, List.getElem_cons_succ, List.getElem_cons_zero, Act.put, List.setIfInBounds_toArray, List.set_cons_succ, List.set_cons_zero]
          refine any_take 1 ?_ (by rfl) (by kernel_rfl) (fun _ _ _ _ _ hx => hx) (.inl ⟨by rfl, ?_⟩) (by with_reducible assumption) ?_; rotate_left; (intro Z hZ; obtain ⟨r1, r2⟩ := Below.rules hZ; clear hZ; go_simp; rfl); simp only [List.getElem_toArray, List.getElem_cons_succ, List.getElem_cons_zero, Act.put, List.setIfInBounds_toArray, List.set_cons_succ, List.set_cons_zero]
          refine any_take 2 ?_ (by rfl) (by kernel_rfl) (fun _ _ _ _ _ hx => hx) (.inl ⟨by rfl, ?_⟩) (by with_reducible assumption) ?_; rotate_left; (intro Z hZ; obtain ⟨r1, r2⟩ := Below.rules hZ; clear hZ; go_simp; rfl); simp only [List.getElem_toArray, List.getElem_cons_succ, List.getElem_cons_zero, Act.put, List.setIfInBounds_toArray, List.set_cons_succ, List.set_cons_zero]
          refine any_take 3 ?_ (by rfl) (by kernel_rfl) (fun _ _ _ _ _ hx => hx) (.inl ⟨by rfl, ?_⟩) (by with_reducible assumption) ?_; rotate_left; (intro Z hZ; obtain ⟨r1, r2⟩ := Below.rules hZ; clear hZ; go_simp; rfl); simp only [List.getElem_toArray, List.getElem_cons_succ, List.getElem_cons_zero, Act.put, List.setIfInBounds_toArray, List.set_cons_succ, List.set_cons_zero]
          refine any_take 4 ?_ (by rfl) (by kernel_rfl) (fun _ _ _ _ _ hx => hx) (.inl ⟨by rfl, ?_⟩) (by with_reducible assumption) ?_; rotate_left; (intro Z hZ; obtain ⟨r1, r2⟩ := Below.rules hZ; clear hZ; go_simp; rfl); simp only [List.getElem_toArray, List.getElem_cons_succ, List.getElem_cons_zero, Act.put, List.setIfInBounds_toArray, List.set_cons_succ, List.set_cons_zero]
          refine any_take 5 ?_ (by rfl) (by kernel_rfl) (fun _ _ _ _ _ hx => hx) (.inl ⟨by rfl, ?_⟩) (by with_reducible assumption) ?_; rotate_left; (intro Z hZ; obtain ⟨r1, r2⟩ := Below.rules hZ; clear hZ; go_simp; rfl); simp only [List.getElem_toArray, List.getElem_cons_succ, List.getElem_cons_zero, Act.put, List.setIfInBounds_toArray, List.set_cons_succ, List.set_cons_zero]
          refine any_take 6 ?_ (by rfl) (by kernel_rfl) (fun _ _ _ _ _ hx => hx) (.inl ⟨by rfl, ?_⟩) (by with_reducible assumption) ?_; rotate_left; (intro Z hZ; obtain ⟨r1, r2⟩ := Below.rules hZ; clear hZ; go_simp; rfl); simp only [List.getElem_toArray, List.getElem_cons_succ, List.getElem_cons_zero, Act.put, List.setIfInBounds_toArray, List.set_cons_succ, List.set_cons_zero]
          refine any_take 7 ?_ (by rfl) (by kernel_rfl) (fun _ _ _ _ _ hx => hx) (.inl ⟨by rfl, ?_⟩) (by with_reducible assumption) ?_; rotate_left; (intro Z hZ; obtain ⟨r1, r2⟩ := Below.rules hZ; clear hZ; go_simp; rfl); simp only [List.getElem_toArray, List.getElem_cons_succ, List.getElem_cons_zero, Act.put, List.setIfInBounds_toArray, List.set_cons_succ, List.set_cons_zero]
          refine any_take 8 ?_ (by rfl) (by kernel_rfl) (fun _ _ _ _ _ hx => hx) (.inl ⟨by rfl, ?_⟩) (by with_reducible assumption) ?_; rotate_left; (intro Z hZ; obtain ⟨r1, r2⟩ := Below.rules hZ; clear hZ; go_simp; rfl); simp only [List.getElem_toArray, List.getElem_cons_succ, List.getElem_cons_zero, Act.put, List.setIfInBounds_toArray, List.set_cons_succ, List.set_cons_zero]
          refine any_take 9 ?_ (by rfl) (by kernel_rfl) (fun _ _ _ _ _ hx => hx) (.inl ⟨by rfl, ?_⟩) (by with_reducible assumption) ?_; rotate_left; (intro Z hZ; obtain ⟨r1, r2⟩ := Below.rules hZ; clear hZ; go_simp; rfl); simp only [List.getElem_toArray, List.getElem_cons_succ, List.getElem_cons_zero, Act.put, List.setIfInBounds_toArray, List.set_cons_succ, List.set_cons_zero]
          refine any_take 10 ?_ (by rfl) (by kernel_rfl) (fun _ _ _ _ _ hx => hx) (.inl ⟨by rfl, ?_⟩) (by with_reducible assumption) ?_; rotate_left; (intro Z hZ; obtain ⟨r1, r2⟩ := Below.rules hZ; clear hZ; go_simp; rfl); simp only [List.getElem_toArray, List.getElem_cons_succ, List.getElem_cons_zero, Act.put, List.setIfInBounds_toArray, List.set_cons_succ, List.set_cons_zero]
          refine any_take 11 ?_ (by rfl) (by kernel_rfl) (fun _ _ _ _ _ hx => hx) (.inl ⟨by rfl, ?_⟩) (by with_reducible assumption) ?_; rotate_left; (intro Z hZ; obtain ⟨r1, r2⟩ := Below.rules hZ; clear hZ; go_simp; rfl); simp only [List.getElem_toArray, List.getElem_cons_succ, List.getElem_cons_zero, Act.put, List.setIfInBounds_toArray, List.set_cons_succ, List.set_cons_zero]
          refine any_take 12 ?_ (by rfl) (by kernel_rfl) (fun _ _ _ _ _ hx => hx) (.inl ⟨by rfl, ?_⟩) (by with_reducible assumption) ?_; rotate_left; (intro Z hZ; obtain ⟨r1, r2⟩ := Below.rules hZ; clear hZ; go_simp; rfl); simp only [List.getElem_toArray, List.getElem_cons_succ, List.getElem_cons_zero, Act.put, List.setIfInBounds_toArray, List.set_cons_succ, List.set_cons_zero]
          refine any_take 13 ?_ (by rfl) (by kernel_rfl) (fun _ _ _ _ _ hx => hx) (.inl ⟨by rfl, ?_⟩) (by with_reducible assumption) ?_; rotate_left; (intro Z hZ; obtain ⟨r1, r2⟩ := Below.rules hZ; clear hZ; go_simp; rfl); simp only [List.getElem_toArray, List.getElem_cons_succ, List.getElem_cons_zero, Act.put, List.setIfInBounds_toArray, List.set_cons_succ, List.set_cons_zero]
          refine any_take 14 ?_ (by rfl) (by kernel_rfl) (fun _ _ _ _ _ hx => hx) (.inl ⟨by rfl, ?_⟩) (by with_reducible assumption) ?_; rotate_left; (intro Z hZ; obtain ⟨r1, r2⟩ := Below.rules hZ; clear hZ; go_simp; rfl); simp only [List.getElem_toArray, List.getElem_cons_succ, List.getElem_cons_zero, Act.put, List.setIfInBounds_toArray, List.set_cons_succ, List.set_cons_zero]
          refine any_take 15 ?_ (by rfl) (by kernel_rfl) (fun _ _ _ _ _ hx => hx) (.inl ⟨by rfl, ?_⟩) (by with_reducible assumption) ?_; rotate_left; (intro Z hZ; obtain ⟨r1, r2⟩ := Below.rules hZ; clear hZ; go_simp; rfl); simp only [List.getElem_toArray, List.getElem_cons_succ, List.getElem_cons_zero, Act.put, List.setIfInBounds_toArray, List.set_cons_succ, List.set_cons_zero]
          refine any_take 16 ?_ (by rfl) (by kernel_rfl) (fun _ _ _ _ _ hx => hx) (.inl ⟨by rfl, ?_⟩) (by with_reducible assumption) ?_; rotate_left; (intro Z hZ; obtain ⟨r1, r2⟩ := Below.rules hZ; clear hZ; go_simp; rfl); simp only [List.getElem_toArray, List.getElem_cons_succ, List.getElem_cons_zero, Act.put, List.setIfInBounds_toArray, List.set_cons_succ, List.set_cons_zero]
          refine any_take 17 ?_ (by rfl) (by kernel_rfl) (fun _ _ _ _ _ hx => hx) (.inl ⟨by rfl, ?_⟩) (by with_reducible assumption) ?_; rotate_left; (intro Z hZ; obtain ⟨r1, r2⟩ := Below.rules hZ; clear hZ; go_simp; rfl); simp only [List.getElem_toArray, List.getElem_cons_succ, List.getElem_cons_zero, Act.put, List.setIfInBounds_toArray, List.set_cons_succ, List.set_cons_zero]
          refine any_take 18 ?_ (by rfl) (by kernel_rfl) (fun _ _ _ _ _ hx => hx) (.inl ⟨by rfl, ?_⟩) (by with_reducible assumption) ?_; rotate_left; (intro Z hZ; obtain ⟨r1, r2⟩ := Below.rules hZ; clear hZ; go_simp; rfl); simp only [List.getElem_toArray, List.getElem_cons_succ, List.getElem_cons_zero, Act.put, List.setIfInBounds_toArray, List.set_cons_succ, List.set_cons_zero]
          refine any_take 19 ?_ (by rfl) (by kernel_rfl) (fun _ _ _ _ _ hx => hx) (.inl ⟨by rfl, ?_⟩) (by with_reducible assumption) ?_; rotate_left; (intro Z hZ; obtain ⟨r1, r2⟩ := Below.rules hZ; clear hZ; go_simp; rfl); simp only [List.getElem_toArray, List.getElem_cons_succ, List.getElem_cons_zero, Act.put, List.setIfInBounds_toArray, List.set_cons_succ, List.set_cons_zero]
          refine any_take 20 ?_ (by rfl) (by kernel_rfl) (fun _ _ _ _ _ hx => hx) (.inl ⟨by rfl, ?_⟩) (by with_reducible assumption) ?_; rotate_left; (intro Z hZ; obtain ⟨r1, r2⟩ := Below.rules hZ; clear hZ; go_simp; rfl); simp only [List.getElem_toArray, List.getElem_cons_succ, List.getElem_cons_zero, Act.put, List.setIfInBounds_toArray, List.set_cons_succ, List.set_cons_zero]
          refine any_take 21 ?_ (by rfl) (by kernel_rfl) (fun _ _ _ _ _ hx => hx) (.inl ⟨by rfl, ?_⟩) (by with_reducible assumption) ?_; rotate_left; (intro Z hZ; obtain ⟨r1, r2⟩ := Below.rules hZ; clear hZ; go_simp; rfl); simp only [List.getElem_toArray, List.getElem_cons_succ, List.getElem_cons_zero, Act.put, List.setIfInBounds_toArray, List.set_cons_succ, List.set_cons_zero]
          refine any_take 22 ?_ (by rfl) (by kernel_rfl) (fun _ _ _ _ _ hx => hx) (.inl ⟨by rfl, ?_⟩) (by with_reducible assumption) ?_; rotate_left; (intro Z hZ; obtain ⟨r1, r2⟩ := Below.rules hZ; clear hZ; go_simp; rfl); simp only [List.getElem_toArray, List.getElem_cons_succ, List.getElem_cons_zero, Act.put, List.setIfInBounds_toArray, List.set_cons_succ, List.set_cons_zero]
          refine any_take 23 ?_ (by rfl) (by kernel_rfl) (fun _ _ _ _ _ hx => hx) (.inl ⟨by rfl, ?_⟩) (by with_reducible assumption) ?_; rotate_left; (intro Z hZ; obtain ⟨r1, r2⟩ := Below.rules hZ; clear hZ; go_simp; rfl); simp only [List.getElem_toArray, List.getElem_cons_succ, List.getElem_cons_zero, Act.put, List.setIfInBounds_toArray, List.set_cons_succ, List.set_cons_zero]
          refine any_done (by kernel_rfl) ?_
          gi_wp2_with fail
          have hs2 : s2 = s1 := SU.out.trans (if_neg (fun hf => by have := FR.out.1 hf; omega))
          show Kept (fun _ => False) (h + 3) Y _ ∧ RxI w gb gl n s (sJ E (lks E ts (qOf bel asks) top) s (j + 1)) zz (i * 128 + (j + 1)) h Ds _
          rw [S2E.out, hs2]
          have hYd : Below Y.heap.size Y Y.drew.drew := hd2
          refine ⟨((Kept.refl _ _ _).drew).drew, ⟨nn1, ?_⟩, I5, I6, I7, ⟨I8.1, fun D hD => I8.2 D hD⟩, I9⟩
          have h0 := ST.out
          exact ⟨h0.lk, h0.mp.kept rfl, by have := h0.few; omega, Below.drew (Below.drew h0.below), h0.b2, h0.b3, fun v => by have := h0.bd v; omega⟩
        have d2 : decide (mu + cc < mv2) = true := decide_eq_true c2
        refine round_any [0, 1, 2, 3, 4, 5, 6, 7, 8, 9, 10, 11, 12, 13, 14, 15, 16, 17, 18, 19, 20, 21, 22, 23] (Below Y.heap.size Y) mixed (by kernel_rfl) ?_ ?_
        · rintro ⟨_, _, hx⟩; exact hx
        refine any_take 0 ?_ (by rfl) (by kernel_rfl) (fun _ _ _ _ _ hx => hx) (.inl ⟨by rfl, ?_⟩) (by with_reducible assumption) ?_; rotate_left; (intro Z hZ; obtain ⟨r1, r2⟩ := Below.rules hZ; clear hZ; go_simp; rfl); simp only [List.getElem_toArray, List.getElem_cons_succ, List.getElem_cons_zero, Act.put, List.setIfInBounds_toArray, List.set_cons_succ, List.set_cons_zero]
        refine any_take 1 ?_ (by rfl) (by kernel_rfl) (fun _ _ _ _ _ hx => hx) (.inl ⟨by rfl, ?_⟩) (by with_reducible assumption) ?_; rotate_left; (intro Z hZ; obtain ⟨r1, r2⟩ := Below.rules hZ; clear hZ; go_simp; rfl); simp only [List.getElem_toArray, List.getElem_cons_succ, List.getElem_cons_zero, Act.put, List.setIfInBounds_toArray, List.set_cons_succ, List.set_cons_zero]
        refine any_take 2 ?_ (by rfl) (by kernel_rfl) (fun _ _ _ _ _ hx => hx) (.inl ⟨by rfl, ?_⟩) (by with_reducible assumption) ?_; rotate_left; (intro Z hZ; obtain ⟨r1, r2⟩ := Below.rules hZ; clear hZ; go_simp; rfl); simp only [List.getElem_toArray, List.getElem_cons_succ, List.getElem_cons_zero, Act.put, List.setIfInBounds_toArray, List.set_cons_succ, List.set_cons_zero]
        refine any_take 3 ?_ (by rfl) (by kernel_rfl) (fun _ _ _ _ _ hx => hx) (.inl ⟨by rfl, ?_⟩) (by with_reducible assumption) ?_; rotate_left; (intro Z hZ; obtain ⟨r1, r2⟩ := Below.rules hZ; clear hZ; go_simp; rfl); simp only [List.getElem_toArray, List.getElem_cons_succ, List.getElem_cons_zero, Act.put, List.setIfInBounds_toArray, List.set_cons_succ, List.set_cons_zero]
        refine any_take 4 ?_ (by rfl) (by kernel_rfl) (fun _ _ _ _ _ hx => hx) (.inl ⟨by rfl, ?_⟩) (by with_reducible assumption) ?_; rotate_left; (intro Z hZ; obtain ⟨r1, r2⟩ := Below.rules hZ; clear hZ; go_simp; rfl); simp only [List.getElem_toArray, List.getElem_cons_succ, List.getElem_cons_zero, Act.put, List.setIfInBounds_toArray, List.set_cons_succ, List.set_cons_zero]
        refine any_take 5 ?_ (by rfl) (by kernel_rfl) (fun _ _ _ _ _ hx => hx) (.inl ⟨by rfl, ?_⟩) (by with_reducible assumption) ?_; rotate_left; (intro Z hZ; obtain ⟨r1, r2⟩ := Below.rules hZ; clear hZ; go_simp; rfl); simp only [List.getElem_toArray, List.getElem_cons_succ, List.getElem_cons_zero, Act.put, List.setIfInBounds_toArray, List.set_cons_succ, List.set_cons_zero]
        refine any_take 6 ?_ (by rfl) (by kernel_rfl) (fun _ _ _ _ _ hx => hx) (.inl ⟨by rfl, ?_⟩) (by with_reducible assumption) ?_; rotate_left; (intro Z hZ; obtain ⟨r1, r2⟩ := Below.rules hZ; clear hZ; go_simp; rfl); simp only [List.getElem_toArray, List.getElem_cons_succ, List.getElem_cons_zero, Act.put, List.setIfInBounds_toArray, List.set_cons_succ, List.set_cons_zero]
        refine any_take 7 ?_ (by rfl) (by kernel_rfl) (fun _ _ _ _ _ hx => hx) (.inl ⟨by rfl, ?_⟩) (by with_reducible assumption) ?_; rotate_left; (intro Z hZ; obtain ⟨r1, r2⟩ := Below.rules hZ; clear hZ; go_simp; rfl); simp only [List.getElem_toArray, List.getElem_cons_succ, List.getElem_cons_zero, Act.put, List.setIfInBounds_toArray, List.set_cons_succ, List.set_cons_zero]
        refine any_take 8 ?_ (by rfl) (by kernel_rfl) (fun _ _ _ _ _ hx => hx) (.inl ⟨by rfl, ?_⟩) (by with_reducible assumption) ?_; rotate_left; (intro Z hZ; obtain ⟨r1, r2⟩ := Below.rules hZ; clear hZ; go_simp; rfl); simp only [List.getElem_toArray, List.getElem_cons_succ, List.getElem_cons_zero, Act.put, List.setIfInBounds_toArray, List.set_cons_succ, List.set_cons_zero]
        refine any_take 9 ?_ (by rfl) (by kernel_rfl) (fun _ _ _ _ _ hx => hx) (.inl ⟨by rfl, ?_⟩) (by with_reducible assumption) ?_; rotate_left; (intro Z hZ; obtain ⟨r1, r2⟩ := Below.rules hZ; clear hZ; go_simp; rfl); simp only [List.getElem_toArray, List.getElem_cons_succ, List.getElem_cons_zero, Act.put, List.setIfInBounds_toArray, List.set_cons_succ, List.set_cons_zero]
        refine any_take 10 ?_ (by rfl) (by kernel_rfl) (fun _ _ _ _ _ hx => hx) (.inl ⟨by rfl, ?_⟩) (by with_reducible assumption) ?_; rotate_left; (intro Z hZ; obtain ⟨r1, r2⟩ := Below.rules hZ; clear hZ; go_simp; rfl); simp only [List.getElem_toArray, List.getElem_cons_succ, List.getElem_cons_zero, Act.put, List.setIfInBounds_toArray, List.set_cons_succ, List.set_cons_zero]
        refine any_take 11 ?_ (by rfl) (by kernel_rfl) (fun _ _ _ _ _ hx => hx) (.inl ⟨by rfl, ?_⟩) (by with_reducible assumption) ?_; rotate_left; (intro Z hZ; obtain ⟨r1, r2⟩ := Below.rules hZ; clear hZ; go_simp; rfl); simp only [List.getElem_toArray, List.getElem_cons_succ, List.getElem_cons_zero, Act.put, List.setIfInBounds_toArray, List.set_cons_succ, List.set_cons_zero]
        refine any_take 12 ?_ (by rfl) (by kernel_rfl) (fun _ _ _ _ _ hx => hx) (.inl ⟨by rfl, ?_⟩) (by with_reducible assumption) ?_; rotate_left; (intro Z hZ; obtain ⟨r1, r2⟩ := Below.rules hZ; clear hZ; go_simp; rfl); simp only [List.getElem_toArray, List.getElem_cons_succ, List.getElem_cons_zero, Act.put, List.setIfInBounds_toArray, List.set_cons_succ, List.set_cons_zero]
        refine any_take 13 ?_ (by rfl) (by kernel_rfl) (fun _ _ _ _ _ hx => hx) (.inl ⟨by rfl, ?_⟩) (by with_reducible assumption) ?_; rotate_left; (intro Z hZ; obtain ⟨r1, r2⟩ := Below.rules hZ; clear hZ; go_simp; rfl); simp only [List.getElem_toArray, List.getElem_cons_succ, List.getElem_cons_zero, Act.put, List.setIfInBounds_toArray, List.set_cons_succ, List.set_cons_zero]
        refine any_take 14 ?_ (by rfl) (by kernel_rfl) (fun _ _ _ _ _ hx => hx) (.inl ⟨by rfl, ?_⟩) (by with_reducible assumption) ?_; rotate_left; (intro Z hZ; obtain ⟨r1, r2⟩ := Below.rules hZ; clear hZ; go_simp; rfl); simp only [List.getElem_toArray, List.getElem_cons_succ, List.getElem_cons_zero, Act.put, List.setIfInBounds_toArray, List.set_cons_succ, List.set_cons_zero]
        refine any_take 15 ?_ (by rfl) (by kernel_rfl) (fun _ _ _ _ _ hx => hx) (.inl ⟨by rfl, ?_⟩) (by with_reducible assumption) ?_; rotate_left; (intro Z hZ; obtain ⟨r1, r2⟩ := Below.rules hZ; clear hZ; go_simp; rfl); simp only [List.getElem_toArray, List.getElem_cons_succ, List.getElem_cons_zero, Act.put, List.setIfInBounds_toArray, List.set_cons_succ, List.set_cons_zero]
        refine any_take 16 ?_ (by rfl) (by kernel_rfl) (fun _ _ _ _ _ hx => hx) (.inl ⟨by rfl, ?_⟩) (by with_reducible assumption) ?_; rotate_left; (intro Z hZ; obtain ⟨r1, r2⟩ := Below.rules hZ; clear hZ; go_simp; rfl); simp only [List.getElem_toArray, List.getElem_cons_succ, List.getElem_cons_zero, Act.put, List.setIfInBounds_toArray, List.set_cons_succ, List.set_cons_zero]
        refine any_take 17 ?_ (by rfl) (by kernel_rfl) (fun _ _ _ _ _ hx => hx) (.inl ⟨by rfl, ?_⟩) (by with_reducible assumption) ?_; rotate_left; (intro Z hZ; obtain ⟨r1, r2⟩ := Below.rules hZ; clear hZ; go_simp; rfl); simp only [List.getElem_toArray, List.getElem_cons_succ, List.getElem_cons_zero, Act.put, List.setIfInBounds_toArray, List.set_cons_succ, List.set_cons_zero]
        refine any_take 18 ?_ (by rfl) (by kernel_rfl) (fun _ _ _ _ _ hx => hx) (.inl ⟨by rfl, ?_⟩) (by with_reducible assumption) ?_; rotate_left; (intro Z hZ; obtain ⟨r1, r2⟩ := Below.rules hZ; clear hZ; go_simp; rfl); simp only [List.getElem_toArray, List.getElem_cons_succ, List.getElem_cons_zero, Act.put, List.setIfInBounds_toArray, List.set_cons_succ, List.set_cons_zero]
        refine any_take 19 ?_ (by rfl) (by kernel_rfl) (fun _ _ _ _ _ hx => hx) (.inl ⟨by rfl, ?_⟩) (by with_reducible assumption) ?_; rotate_left; (intro Z hZ; obtain ⟨r1, r2⟩ := Below.rules hZ; clear hZ; go_simp; rfl); simp only [List.getElem_toArray, List.getElem_cons_succ, List.getElem_cons_zero, Act.put, List.setIfInBounds_toArray, List.set_cons_succ, List.set_cons_zero]
        refine any_take 20 ?_ (by rfl) (by kernel_rfl) (fun _ _ _ _ _ hx => hx) (.inl ⟨by rfl, ?_⟩) (by with_reducible assumption) ?_; rotate_left; (intro Z hZ; obtain ⟨r1, r2⟩ := Below.rules hZ; clear hZ; go_simp; rfl); simp only [List.getElem_toArray, List.getElem_cons_succ, List.getElem_cons_zero, Act.put, List.setIfInBounds_toArray, List.set_cons_succ, List.set_cons_zero]
        refine any_take 21 ?_ (by rfl) (by kernel_rfl) (fun _ _ _ _ _ hx => hx) (.inl ⟨by rfl, ?_⟩) (by with_reducible assumption) ?_; rotate_left; (intro Z hZ; obtain ⟨r1, r2⟩ := Below.rules hZ; clear hZ; go_simp; rfl); simp only [List.getElem_toArray, List.getElem_cons_succ, List.getElem_cons_zero, Act.put, List.setIfInBounds_toArray, List.set_cons_succ, List.set_cons_zero]
        refine any_take 22 ?_ (by rfl) (by kernel_rfl) (fun _ _ _ _ _ hx => hx) (.inl ⟨by rfl, ?_⟩) (by with_reducible assumption) ?_; rotate_left; (intro Z hZ; obtain ⟨r1, r2⟩ := Below.rules hZ; clear hZ; go_simp; rfl); simp only [List.getElem_toArray, List.getElem_cons_succ, List.getElem_cons_zero, Act.put, List.setIfInBounds_toArray, List.set_cons_succ, List.set_cons_zero]
        refine any_take 23 ?_ (by rfl) (by kernel_rfl) (fun _ _ _ _ _ hx => hx) (.inl ⟨by rfl, ?_⟩) (by with_reducible assumption) ?_; rotate_left; (intro Z hZ; obtain ⟨r1, r2⟩ := Below.rules hZ; clear hZ; go_simp; rfl); simp only [List.getElem_toArray, List.getElem_cons_succ, List.getElem_cons_zero, Act.put, List.setIfInBounds_toArray, List.set_cons_succ, List.set_cons_zero]
        refine any_done (by kernel_rfl) ?_
        gi_wp2_with fail
        refine round_any [0, 1, 2, 3, 4, 5, 6, 7, 8, 9, 10, 11, 12] (Below Y.heap.size Y) mixed (by kernel_rfl) ?_ ?_
        · rintro ⟨_, _, hx⟩; exact hx
        refine any_take 0 ?_ (by rfl) (by kernel_rfl) (fun _ _ _ _ _ hx => hx) (.inl ⟨by rfl, ?_⟩) (by with_reducible assumption) ?_; rotate_left; (intro Z hZ; obtain ⟨r1, r2⟩ := Below.rules hZ; clear hZ; go_simp; rfl); simp only [List.getElem_toArray, List.getElem_cons_succ, List.getElem_cons_zero, Act.put, List.setIfInBounds_toArray, List.set_cons_succ, List.set_cons_zero]
        refine any_take 1 ?_ (by rfl) (by kernel_rfl) (fun _ _ _ _ _ hx => hx) (.inl ⟨by rfl, ?_⟩) (by with_reducible assumption) ?_; rotate_left; (intro Z hZ; obtain ⟨r1, r2⟩ := Below.rules hZ; clear hZ; go_simp; rfl); simp only [List.getElem_toArray, List.getElem_cons_succ, List.getElem_cons_zero, Act.put, List.setIfInBounds_toArray, List.set_cons_succ, List.set_cons_zero]
        refine any_take 2 ?_ (by rfl) (by kernel_rfl) (fun _ _ _ _ _ hx => hx) (.inl ⟨by rfl, ?_⟩) (by with_reducible assumption) ?_; rotate_left; (intro Z hZ; obtain ⟨r1, r2⟩ := Below.rules hZ; clear hZ; go_simp; rfl); simp only [List.getElem_toArray, List.getElem_cons_succ, List.getElem_cons_zero, Act.put, List.setIfInBounds_toArray, List.set_cons_succ, List.set_cons_zero]
        refine any_take 3 ?_ (by rfl) (by kernel_rfl) (fun _ _ _ _ _ hx => hx) (.inl ⟨by rfl, ?_⟩) (by with_reducible assumption) ?_; rotate_left; (intro Z hZ; obtain ⟨r1, r2⟩ := Below.rules hZ; clear hZ; go_simp; rfl); simp only [List.getElem_toArray, List.getElem_cons_succ, List.getElem_cons_zero, Act.put, List.setIfInBounds_toArray, List.set_cons_succ, List.set_cons_zero]
        refine any_take 4 ?_ (by rfl) (by kernel_rfl) (fun _ _ _ _ _ hx => hx) (.inl ⟨by rfl, ?_⟩) (by with_reducible assumption) ?_; rotate_left; (intro Z hZ; obtain ⟨r1, r2⟩ := Below.rules hZ; clear hZ; go_simp; rfl); simp only [List.getElem_toArray, List.getElem_cons_succ, List.getElem_cons_zero, Act.put, List.setIfInBounds_toArray, List.set_cons_succ, List.set_cons_zero]
        refine any_take 5 ?_ (by rfl) (by kernel_rfl) (fun _ _ _ _ _ hx => hx) (.inl ⟨by rfl, ?_⟩) (by with_reducible assumption) ?_; rotate_left; (intro Z hZ; obtain ⟨r1, r2⟩ := Below.rules hZ; clear hZ; go_simp; rfl); simp only [List.getElem_toArray, List.getElem_cons_succ, List.getElem_cons_zero, Act.put, List.setIfInBounds_toArray, List.set_cons_succ, List.set_cons_zero]
        refine any_take 6 ?_ (by rfl) (by kernel_rfl) (fun _ _ _ _ _ hx => hx) (.inl ⟨by rfl, ?_⟩) (by with_reducible assumption) ?_; rotate_left; (intro Z hZ; obtain ⟨r1, r2⟩ := Below.rules hZ; clear hZ; go_simp; rfl); simp only [List.getElem_toArray, List.getElem_cons_succ, List.getElem_cons_zero, Act.put, List.setIfInBounds_toArray, List.set_cons_succ, List.set_cons_zero]
        refine any_take 7 ?_ (by rfl) (by kernel_rfl) (fun _ _ _ _ _ hx => hx) (.inl ⟨by rfl, ?_⟩) (by with_reducible assumption) ?_; rotate_left; (intro Z hZ; obtain ⟨r1, r2⟩ := Below.rules hZ; clear hZ; go_simp; rfl); simp only [List.getElem_toArray, List.getElem_cons_succ, List.getElem_cons_zero, Act.put, List.setIfInBounds_toArray, List.set_cons_succ, List.set_cons_zero]
        refine any_take 8 ?_ (by rfl) (by kernel_rfl) (fun _ _ _ _ _ hx => hx) (.inl ⟨by rfl, ?_⟩) (by with_reducible assumption) ?_; rotate_left; (intro Z hZ; obtain ⟨r1, r2⟩ := Below.rules hZ; clear hZ; go_simp; rfl); simp only [List.getElem_toArray, List.getElem_cons_succ, List.getElem_cons_zero, Act.put, List.setIfInBounds_toArray, List.set_cons_succ, List.set_cons_zero]
        refine any_take 9 ?_ (by rfl) (by kernel_rfl) (fun _ _ _ _ _ hx => hx) (.inl ⟨by rfl, ?_⟩) (by with_reducible assumption) ?_; rotate_left; (intro Z hZ; obtain ⟨r1, r2⟩ := Below.rules hZ; clear hZ; go_simp; rfl); simp only [List.getElem_toArray, List.getElem_cons_succ, List.getElem_cons_zero, Act.put, List.setIfInBounds_toArray, List.set_cons_succ, List.set_cons_zero]
        refine any_take 10 ?_ (by rfl) (by kernel_rfl) (fun _ _ _ _ _ hx => hx) (.inl ⟨by rfl, ?_⟩) (by with_reducible assumption) ?_; rotate_left; (intro Z hZ; obtain ⟨r1, r2⟩ := Below.rules hZ; clear hZ; go_simp; rfl); simp only [List.getElem_toArray, List.getElem_cons_succ, List.getElem_cons_zero, Act.put, List.setIfInBounds_toArray, List.set_cons_succ, List.set_cons_zero]
        refine any_take 11 ?_ (by rfl) (by kernel_rfl) (fun _ _ _ _ _ hx => hx) (.inl ⟨by rfl, ?_⟩) (by with_reducible assumption) ?_; rotate_left; (intro Z hZ; obtain ⟨r1, r2⟩ := Below.rules hZ; clear hZ; go_simp; rfl); simp only [List.getElem_toArray, List.getElem_cons_succ, List.getElem_cons_zero, Act.put, List.setIfInBounds_toArray, List.set_cons_succ, List.set_cons_zero]
        refine any_take 12 ?_ (by rfl) (by kernel_rfl) (fun _ _ _ _ _ hx => hx) (.inl ⟨by rfl, ?_⟩) (by with_reducible assumption) ?_; rotate_left; (intro Z hZ; obtain ⟨r1, r2⟩ := Below.rules hZ; clear hZ; go_simp; rfl); simp only [List.getElem_toArray, List.getElem_cons_succ, List.getElem_cons_zero, Act.put, List.setIfInBounds_toArray, List.set_cons_succ, List.set_cons_zero]
        refine any_run1 (i := 13) (by kernel_rfl) (by rfl) (by kernel_rfl) ?_
        intro K3 hK3
        go_wp2_with fail
        refine hK3 _ _ (fun hx => (Bool.false_ne_true (hx.symm.trans (by kernel_rfl))).elim) ?_
        clear hK3 K3
        refine any_done (by kernel_rfl) ?_
        have h0 := ST.out
        have lk1 : Lk ((Y.setCell ⟨gl, vv, none⟩ (.int .i64 (mu + cc))).drew.drew.drew) gl (s1.most.set vv (mu + cc)) (.map (some (n + 2))) zz := h0.lk.set (by omega) _
        have mp1 : MP ((Y.setCell ⟨gl, vv, none⟩ (.int .i64 (mu + cc))).drew.drew.drew) (n + 2) nn1 (fun v => (s1.by_ v).map (fun x : Kw => x.1)) := h0.mp.kept (Below.heap_setCell Y _ _ _ (by show n + 2 ≠ gl; omega))
        have kp1 : Kept (fun _ => False) (h + 3) Y ((Y.setCell ⟨gl, vv, none⟩ (.int .i64 (mu + cc))).drew.drew.drew) := ((((Kept.refl _ _ _).setCell (.inl (by show gl < h + 3; omega)) _).drew).drew).drew
        have bl1 : Below gl w ((Y.setCell ⟨gl, vv, none⟩ (.int .i64 (mu + cc))).drew.drew.drew) := Below.drew (Below.drew (Below.drew (Below.setCell h0.below (Nat.le_refl _) _)))
        have hoth : ∀ k, k ≠ gl → ((Y.setCell ⟨gl, vv, none⟩ (.int .i64 (mu + cc))).drew.drew.drew).heap[k]? = Y.heap[k]? := fun k hk => Below.heap_setCell Y _ _ _ (by show k ≠ gl; exact hk)
        have sz1 : ((Y.setCell ⟨gl, vv, none⟩ (.int .i64 (mu + cc))).drew.drew.drew).heap.size = Y.heap.size := by show (Y.setCell _ _).heap.size = _; simp only [World.setCell, Array.size_modify]
        have hbd0 := h0.bd
        have hfew := h0.few
        have B2 := (hoth n (by omega)).trans h0.b2
        have B3 := (hoth (n + 1) (by omega)).trans h0.b3
        have J5 := (hoth h (by omega)).trans I5
        have J6 := (hoth (h + 1) (by omega)).trans I6
        have J7 := (hoth (h + 2) (by omega)).trans I7
        have JX := (hoth bx (by omega)).trans HBK.out
        have JM : ∀ D ∈ Ds, ((Y.setCell ⟨gl, vv, none⟩ (.int .i64 (mu + cc))).drew.drew.drew).heap[D]? = some (.deferred (some [])) := fun D hD => (hoth D (by have := HDS.out D hD; omega)).trans (I8.2 D hD)
        have hlen1 : s1.most.length = 17 := h0.lk.2
        generalize (Y.setCell ⟨gl, vv, none⟩ (.int .i64 (mu + cc))).drew.drew.drew = Y1 at *
        clear h0 ST hoth I5 I6 I7 hd1 hd2 hd3 HBX HBK cu cv fv cm y2 y3 x0 x1 x2 e6 f6 l6 l2 l3 lx lgl
        have hnm : nn1 < 1000000 := by omega
        obtain ⟨Y2, hrun, mp2, hg2, hsz2⟩ := mp1.drop vv (by omega) 0
        have HY2 := Lib.hid (show h + 3 ≤ Y2.heap.size by omega)
        clear hsz2 sz1
        have y3 := BK.cell (W := Y1) B3 0
        have l3 := BK.lt (W := Y1) B3
        have cm := lk1.map_
        have lgl := lk1.lt
        simp at y3
        gi_wp2_with fail
        have lk2 : Lk Y2 gl (s1.most.set vv (mu + cc)) (.map (some (n + 2))) zz := lk1.same (hg2.block gl lk1.lt (fun e => by injection e with e; omega))
        have kp2 : Kept (fun _ => False) (h + 3) Y Y2 := Kept.grown kp1 hg2 (fun r hr => by cases hr; exact .inl (by omega))
        have bl2 : Below gl w Y2 := Below.grown bl1 hg2 (by have := bl1.size; omega) (fun k hk => by cases hk; omega)
        have C2 : BK Y2 n _ _ := BK.grown (W := Y1) B2 hg2 (fun e => by injection e with e; omega)
        have C3 : BK Y2 (n + 1) _ _ := BK.grown (W := Y1) B3 hg2 (fun e => by injection e with e; omega)
        have K5 : BK Y2 h _ _ := BK.grown (W := Y1) J5 hg2 (fun e => by injection e with e; omega)
        have K6 : BK Y2 (h + 1) _ _ := BK.grown (W := Y1) J6 hg2 (fun e => by injection e with e; omega)
        have K7 : BK Y2 (h + 2) _ _ := BK.grown (W := Y1) J7 hg2 (fun e => by injection e with e; omega)
        have KX : BK Y2 bx _ _ := BK.grown (W := Y1) JX hg2 (fun e => by injection e with e; omega)
        have KM : ∀ D ∈ Ds, Y2.heap[D]? = some (.deferred (some [])) := fun D hD => (hg2.block D (Array.getElem?_eq_some_iff.1 (JM D hD)).1 (fun e => by injection e with e; have := HDS.out D hD; omega)).trans (JM D hD)
        clear hrun mp1 hg2 lk1 kp1 bl1 B2 B3 J5 J6 J7 JX JM y3 l3 cm lgl
        have y3 := C3.cell 0
        have l3 := C3.lt
        have cm := lk2.map_
        have lgl := lk2.lt
        have x0 := KX.cell 0
        have x1 := KX.cell 1
        have x2 := KX.cell 2
        have lx := KX.lt
        simp at y3 x0 x1 x2
        have hd0 : Below Y2.heap.size Y2 Y2 := Below.refl _ _
        have hd1 : Below Y2.heap.size Y2 Y2.drew := Below.drew hd0
        refine round_any [0, 1, 2, 3, 4, 5] (Below Y2.heap.size Y2) mixed (by kernel_rfl) ?_ ?_
        · rintro ⟨_, _, hx⟩; exact hx
        refine any_take 0 ?_ (by rfl) (by kernel_rfl) (fun _ _ _ _ _ hx => hx) (.inl ⟨by rfl, ?_⟩) (by with_reducible assumption) ?_; rotate_left; (intro Z hZ; obtain ⟨r1, r2⟩ := Below.rules hZ; clear hZ; go_simp; rfl); simp only [List.getElem_toArray, List.getElem_cons_succ, List.getElem_cons_zero, Act.put, List.setIfInBounds_toArray, List.set_cons_succ, List.set_cons_zero]
        refine any_take 1 ?_ (by rfl) (by kernel_rfl) (fun _ _ _ _ _ hx => hx) (.inl ⟨by rfl, ?_⟩) (by with_reducible assumption) ?_; rotate_left; (intro Z hZ; obtain ⟨r1, r2⟩ := Below.rules hZ; clear hZ; go_simp; rfl); simp only [List.getElem_toArray, List.getElem_cons_succ, List.getElem_cons_zero, Act.put, List.setIfInBounds_toArray, List.set_cons_succ, List.set_cons_zero]
        refine any_take 2 ?_ (by rfl) (by kernel_rfl) (fun _ _ _ _ _ hx => hx) (.inl ⟨by rfl, ?_⟩) (by with_reducible assumption) ?_; rotate_left; (intro Z hZ; obtain ⟨r1, r2⟩ := Below.rules hZ; clear hZ; go_simp; rfl); simp only [List.getElem_toArray, List.getElem_cons_succ, List.getElem_cons_zero, Act.put, List.setIfInBounds_toArray, List.set_cons_succ, List.set_cons_zero]
        refine any_take 3 ?_ (by rfl) (by kernel_rfl) (fun _ _ _ _ _ hx => hx) (.inl ⟨by rfl, ?_⟩) (by with_reducible assumption) ?_; rotate_left; (intro Z hZ; obtain ⟨r1, r2⟩ := Below.rules hZ; clear hZ; go_simp; rfl); simp only [List.getElem_toArray, List.getElem_cons_succ, List.getElem_cons_zero, Act.put, List.setIfInBounds_toArray, List.set_cons_succ, List.set_cons_zero]
        refine any_take 4 ?_ (by rfl) (by kernel_rfl) (fun _ _ _ _ _ hx => hx) (.inl ⟨by rfl, ?_⟩) (by with_reducible assumption) ?_; rotate_left; (intro Z hZ; obtain ⟨r1, r2⟩ := Below.rules hZ; clear hZ; go_simp; rfl); simp only [List.getElem_toArray, List.getElem_cons_succ, List.getElem_cons_zero, Act.put, List.setIfInBounds_toArray, List.set_cons_succ, List.set_cons_zero]
        refine any_take 5 ?_ (by rfl) (by kernel_rfl) (fun _ _ _ _ _ hx => hx) (.inl ⟨by rfl, ?_⟩) (by with_reducible assumption) ?_; rotate_left; (intro Z hZ; obtain ⟨r1, r2⟩ := Below.rules hZ; clear hZ; go_simp; rfl); simp only [List.getElem_toArray, List.getElem_cons_succ, List.getElem_cons_zero, Act.put, List.setIfInBounds_toArray, List.set_cons_succ, List.set_cons_zero]
        have mp2d : MP Y2.drew (n + 2) nn1 _ := mp2
        obtain ⟨Y3, hrun, mp3, hg3, hsz3⟩ := mp2d.store vv (by omega) ⟨src, dst, tst⟩ hnm
        have HY3 := Lib.hid (show h + 3 ≤ Y3.heap.size by rw [hsz3]; exact HY2.out)
        clear hsz3
        unfold klV at hrun
        refine any_run1 (i := 6) (by kernel_rfl) (by rfl) (by kernel_rfl) ?_
        intro K3 hK3
        go_wp2_with fail
        refine hK3 _ _ (fun hx => (Bool.false_ne_true (hx.symm.trans (by kernel_rfl))).elim) ?_
        clear hK3 K3
        refine any_done (by kernel_rfl) ?_
        have lk3 : Lk Y3 gl (s1.most.set vv (mu + cc)) (.map (some (n + 2))) zz := lk2.same (hg3.block gl lk2.lt (fun e => by injection e with e; omega))
        have kp3 : Kept (fun _ => False) (h + 3) Y Y3 := Kept.grown kp2.drew hg3 (fun r hr => by cases hr; exact .inl (by omega))
        have bl3 : Below gl w Y3 := Below.grown (Below.drew bl2) hg3 (by have := bl2.size; show gl ≤ Y2.heap.size; omega) (fun k hk => by cases hk; omega)
        have E2 : BK Y3 n _ _ := BK.grown (W := Y2.drew) C2 hg3 (fun e => by injection e with e; omega)
        have E3 : BK Y3 (n + 1) _ _ := BK.grown (W := Y2.drew) C3 hg3 (fun e => by injection e with e; omega)
        have M5 : BK Y3 h _ _ := BK.grown (W := Y2.drew) K5 hg3 (fun e => by injection e with e; omega)
        have M6 : BK Y3 (h + 1) _ _ := BK.grown (W := Y2.drew) K6 hg3 (fun e => by injection e with e; omega)
        have M7 : BK Y3 (h + 2) _ _ := BK.grown (W := Y2.drew) K7 hg3 (fun e => by injection e with e; omega)
        have MM : ∀ D ∈ Ds, Y3.heap[D]? = some (.deferred (some [])) := fun D hD => (hg3.block D (Array.getElem?_eq_some_iff.1 (KM D hD)).1 (fun e => by injection e with e; have := HDS.out D hD; omega)).trans (KM D hD)
        have hsz : h + 3 ≤ Y3.heap.size := HY3.out
        clear hrun mp2 mp2d hg3 lk2 kp2 bl2 C2 C3 K5 K6 K7 KX KM y3 l3 cm lgl x0 x1 x2 lx hd0 hd1
        have e6 := M6.cell 0
        have f6 := M6.frozen 0
        have l6 := M6.lt
        simp at e6
        gi_wp2_with fail
        have hs2 := SU.out.trans (if_pos (FR.out.2 ⟨c1, c2⟩))
        show Kept (fun _ => False) (h + 3) Y _ ∧ RxI w gb gl n s (sJ E (lks E ts (qOf bel asks) top) s (j + 1)) zz (i * 128 + (j + 1)) h Ds _
        rw [S2E.out, hs2]
        have hoth : ∀ k, k ≠ h + 1 → (Y3.setCell ⟨h + 1, 0, none⟩ (.int .i64 vv)).heap[k]? = Y3.heap[k]? := fun k hk => Below.heap_setCell Y3 _ _ _ (by show k ≠ h + 1; exact hk)
        refine ⟨kp3.setCell (.inl (by show h + 1 < h + 3; omega)) _, ⟨nn1 + 1, lk3.same (hoth gl (by omega)), ?_, by omega, Below.setCell bl3 (by show gl ≤ h + 1; omega) _, (hoth n (by omega)).trans E2, (hoth (n + 1) (by omega)).trans E3, fun v => ?_⟩, (hoth h (by omega)).trans M5, ?_, (hoth (h + 2) (by omega)).trans M7, ⟨I8.1, fun D hD => (hoth D (by have := HDH.out D hD; omega)).trans (MM D hD)⟩, by simpa [World.setCell] using hsz⟩
        · have := mp3.kept (hoth (n + 2) (by omega))
          have e : (fun v => ((fun x => if x = vv then some ((⟨src, dst, tst⟩ : Kl), cc) else s1.by_ x) v).map (fun x : Kw => x.1)) = (fun j => if j = vv then some (⟨src, dst, tst⟩ : Kl) else (if j = vv then none else (s1.by_ j).map (fun x : Kw => x.1))) := by
            funext x
            dsimp only
            by_cases hx : x = vv
            · rw [if_pos hx, if_pos hx]; rfl
            · rw [if_neg hx, if_neg hx, if_neg hx]
          dsimp only
          rw [e]
          exact this
        · have h1 := hbd0 v
          show -(((i * 128 + (j + 1) : Nat) : Int) * 1000) ≤ nthI (s1.most.set vv (mu + cc)) v ∧ nthI (s1.most.set vv (mu + cc)) v ≤ far
          rw [nthI_set (by omega)]
          split
          · unfold far at *; omega
          · unfold far at *; omega
        · have := M6.set 0 (.int .i64 vv)
          simpa using this
end Go.Proofs.Ytkljdbgkhghiaaa
