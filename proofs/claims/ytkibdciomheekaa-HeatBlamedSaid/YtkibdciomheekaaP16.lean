/- What lies while the tree of a works is made. -/
import Derived.Test.YtkibdciomheekaaP15
import Derived.Lib.SliceRun
import Derived.Laws.MakeOwn
set_option linter.all false
set_option linter.unnecessarySimpa false
set_option linter.unusedSimpArgs false
set_option linter.unusedVariables false
set_option linter.unusedSectionVars false

set_option linter.all false
attribute [local go_sem] Go.Oper.semAt_some
namespace Go.Proofs.Ytkibdciomheekaa
open Go.RowKit Hp

/-- The tree in block g. -/
def TreeM (W : World) (g : Nat) (vb vs : Value) (m : Rg) (bars : List Rg) (ss : List Stp) : Prop :=
  ∃ gf cf gr cr, BK W g #[vb, vs, .int .i64 m.lo, .int .i64 m.hi, .slice (some ⟨gf, 0, none⟩) (ss.length + 1) cf, .slice (some ⟨gr, 0, none⟩) (ss.length + 1) cr] 140 ∧ ss.length + 1 ≤ cf ∧ ss.length + 1 ≤ cr ∧
    Gd W gf 136 (ss.length + 1) (fun i => frontF bars (ss.take i)) ∧ Gd W gr 136 (ss.length + 1) (fun i => rearF m (ss.drop i)) ∧ RR W W.heap.size vb bars ∧ RP W W.heap.size vs ss

/-- What lies while the tree is made: its rows in front, and the row that is at hand. -/
structure NtSt (w : World) (n0 gt : Nat) (vb vs : Value) (m : Rg) (vf vr : Value) (rows : List Row) (now : Row) (X : World) : Prop where
  below : Below n0 w X
  wx : BK X n0 #[vb, vs] 25
  mx : BK X (n0 + 1) #[.int .i64 m.lo, .int .i64 m.hi] 33
  tx : BK X gt #[vb, vs, .int .i64 m.lo, .int .i64 m.hi, vf, vr] 140
  px : BK X (gt + 1) #[.pointer (some ⟨gt, 0, none⟩)] 106
  nx : Gd X (gt + 1 + 1) 136 1 (fun _ => now)
  fx : OwnF X (gt + 1 + 1 + 1) vf rows
section
variable {w : World} {n0 gt : Nat} {vb vs vf vr : Value} {m : Rg} {rows : List Row} {now : Row} {X Y : World}
theorem NtSt.adm {B : Nat} (h : NtSt w n0 gt vb vs m vf vr rows now X) (ha : Adm B X Y) (hw : n0 ≤ w.heap.size) (hB : n0 ≤ B) : NtSt w n0 gt vb vs m vf vr rows now Y :=
  ⟨ha.belowOf h.below hw hB, ha.cells h.wx, ha.cells h.mx, ha.cells h.tx, ha.cells h.px, h.nx.adm ha, ha.own h.fx⟩
theorem NtSt.next (h : NtSt w n0 gt vb vs m vf vr rows now X) (hb : Below X.heap.size X Y) (hw : n0 ≤ w.heap.size) : NtSt w n0 gt vb vs m vf vr rows now Y :=
  h.adm (Adm.below hb) hw (Nat.le_trans hw (by have := h.below.size; omega))
theorem NtSt.grown {g : Nat} (h : NtSt w n0 gt vb vs m vf vr rows now X) (hg : X.grownBy Y (some g)) (hw : n0 ≤ w.heap.size) (hgt : n0 + 2 ≤ gt) (h3 : gt + 1 + 1 + 1 ≤ g) (hne : vf.ownBlock ≠ some g) : NtSt w n0 gt vb vs m vf vr rows now Y := by
  have q : ∀ k, k < g → some k ≠ some g := fun k hk he => by injection he with he; omega
  exact ⟨h.below.grown hg (Nat.le_trans hw h.below.size) (fun k he => by injection he with he; omega), h.wx.grown hg (q _ (by omega)), h.mx.grown hg (q _ (by omega)), h.tx.grown hg (q _ (by omega)), h.px.grown hg (q _ (by omega)), h.nx.grown hg (q _ (by omega)), h.fx.kept hg (.inr hne)⟩
/-- The row at hand is filled. -/
theorem NtSt.row {f : Row} (h : NtSt w n0 gt vb vs m vf vr rows now X) (hg : X.grownBy Y (some (gt + 1 + 1))) (hG : Gd Y (gt + 1 + 1) 136 1 (fun _ => f)) (hw : n0 ≤ w.heap.size) (hgt : n0 + 2 ≤ gt) : NtSt w n0 gt vb vs m vf vr rows f Y := by
  have q : ∀ k, k < gt + 1 + 1 → some k ≠ some (gt + 1 + 1) := fun k hk he => by injection he with he; omega
  refine ⟨h.below.grown hg (Nat.le_trans hw h.below.size) (fun k he => by injection he with he; omega), h.wx.grown hg (q _ (by omega)), h.mx.grown hg (q _ (by omega)), h.tx.grown hg (q _ (by omega)), h.px.grown hg (q _ (by omega)), hG, h.fx.kept hg (.inr fun he => ?_)⟩
  have := (h.fx.lt _ he).1
  omega
/-- A row has been put behind those in front. -/
theorem NtSt.push {vf' : Value} {rows' : List Row} (h : NtSt w n0 gt vb vs m vf vr rows now X) (hd : Below (gt + 1 + 1 + 1) X Y) (hc : Below n0 w Y) (hown : OwnF Y (gt + 1 + 1 + 1) vf' rows') (hw : n0 ≤ w.heap.size) (hgt : n0 + 2 ≤ gt) :
    NtSt w n0 gt vb vs m vf' vr rows' now (Y.setCell ⟨gt, 4, none⟩ vf') := by
  have q : ∀ k, k < gt + 1 + 1 + 1 → Y.heap[k]? = X.heap[k]? := fun k hk => hd.block k hk
  have hg := grown_set (⟨rfl, rfl, rfl, Nat.le_refl _, fun _ _ _ => rfl⟩ : Y.grownBy Y (some gt)) 4 vf'
  refine ⟨Below.setCell hc (by show n0 ≤ gt; omega) _, BK.far ((q n0 (by omega)).trans h.wx) (by show n0 ≠ gt; omega) _, BK.far ((q (n0 + 1) (by omega)).trans h.mx) (by show n0 + 1 ≠ gt; omega) _, ?_, BK.far ((q (gt + 1) (by omega)).trans h.px) (by show gt + 1 ≠ gt; omega) _, Gd.far (h.nx.heap (q (gt + 1 + 1) (by omega))) (by show gt + 1 + 1 ≠ gt; omega) _, hown.kept hg (.inr fun he => ?_)⟩
  · have h1 : BK Y gt _ _ := (q gt (by omega)).trans h.tx
    have := h1.set 4 vf'
    simpa using this
  · have := (hown.lt _ he).1
    omega
/-- The rows behind are laid. -/
theorem NtSt.rear (vr' : Value) (h : NtSt w n0 gt vb vs m vf vr rows now X) (hw : n0 ≤ w.heap.size) (hgt : n0 + 2 ≤ gt) : NtSt w n0 gt vb vs m vf vr' rows now (X.setCell ⟨gt, 5, none⟩ vr') := by
  have hg := grown_set (⟨rfl, rfl, rfl, Nat.le_refl _, fun _ _ _ => rfl⟩ : X.grownBy X (some gt)) 5 vr'
  refine ⟨Below.setCell h.below (by show n0 ≤ gt; omega) _, BK.far h.wx (by show n0 ≠ gt; omega) _, BK.far h.mx (by show n0 + 1 ≠ gt; omega) _, ?_, BK.far h.px (by show gt + 1 ≠ gt; omega) _, Gd.far h.nx (by show gt + 1 + 1 ≠ gt; omega) _, h.fx.kept hg (.inr fun he => ?_)⟩
  · have := h.tx.set 5 vr'
    simpa using this
  · have := (h.fx.lt _ he).1
    omega
end
/-- The next row is filled beside. -/
structure NtIn (w : World) (n0 gt : Nat) (vb vs : Value) (m : Rg) (vf vr : Value) (rows : List Row) (now : Row) (gn : Nat) (f : Row) (X : World) : Prop where
  st : NtSt w n0 gt vb vs m vf vr rows now X
  gx : Gd X gn 136 1 (fun _ => f)
  ne : vf.ownBlock ≠ some gn
  ge : gt + 1 + 1 + 1 ≤ gn
section
variable {w : World} {n0 gt gn : Nat} {vb vs vf vr : Value} {m : Rg} {rows : List Row} {now f : Row} {X Y : World}
theorem NtIn.adm {B : Nat} (h : NtIn w n0 gt vb vs m vf vr rows now gn f X) (ha : Adm B X Y) (hw : n0 ≤ w.heap.size) (hB : n0 ≤ B) : NtIn w n0 gt vb vs m vf vr rows now gn f Y :=
  ⟨h.st.adm ha hw hB, h.gx.adm ha, h.ne, h.ge⟩
theorem NtIn.next (h : NtIn w n0 gt vb vs m vf vr rows now gn f X) (hb : Below X.heap.size X Y) (hw : n0 ≤ w.heap.size) : NtIn w n0 gt vb vs m vf vr rows now gn f Y :=
  h.adm (Adm.below hb) hw (Nat.le_trans hw (by have := h.st.below.size; omega))
theorem NtIn.row {f' : Row} (h : NtIn w n0 gt vb vs m vf vr rows now gn f X) (hg : X.grownBy Y (some gn)) (hG : Gd Y gn 136 1 (fun _ => f')) (hw : n0 ≤ w.heap.size) (hgt : n0 + 2 ≤ gt) : NtIn w n0 gt vb vs m vf vr rows now gn f' Y :=
  ⟨h.st.grown hg hw hgt h.ge h.ne, hG, h.ne, h.ge⟩
end
theorem Marks.next {Ds : List Nat} {X Y : World} (h : Marks Ds X) (hb : Below X.heap.size X Y) : Marks Ds Y :=
  ⟨h.1, fun D hD => by rw [hb.block D (Array.getElem?_eq_some_iff.1 (h.2 D hD)).1]; exact h.2 D hD⟩
theorem Marks.grown {Ds : List Nat} {X Y : World} {g n : Nat} {t : TypeId} {F : Nat → Row} (h : Marks Ds X) (hg : X.grownBy Y (some g)) (hG : Gd X g t n F) : Marks Ds Y :=
  ⟨h.1, fun D hD => by
    have h1 := h.2 D hD
    rw [hg.block D (Array.getElem?_eq_some_iff.1 h1).1 (fun e => ?_)]
    · exact h1
    · injection e with e
      subst e
      obtain ⟨cs, h2, _⟩ := hG
      unfold BK at h2
      rw [h1] at h2
      cases h2⟩
theorem Marks.own {Ds : List Nat} {X Y : World} {base e sz n : Nat} {v : Value} {xs : List Value} (h : Marks Ds X) (hg : X.grownBy Y v.ownBlock) (ho : X.ownsRow base e sz v n xs) : Marks Ds Y :=
  ⟨h.1, fun D hD => by
    have h1 := h.2 D hD
    rw [hg.block D (Array.getElem?_eq_some_iff.1 h1).1 (fun e => ?_)]
    · exact h1
    · obtain ⟨c, hc⟩ := own_block ho e.symm
      rw [h1] at hc
      cases hc⟩
theorem Marks.set {Ds : List Nat} {X : World} {gt : Nat} (h : Marks Ds X) (i : Nat) (u : Value) : Marks Ds (X.setCell ⟨gt, i, none⟩ u) :=
  ⟨h.1, fun D hD => by
    have h1 := h.2 D hD
    by_cases hq : D = gt
    · subst hq
      simp [World.setCell, Array.getElem?_modify, h1]
    · rw [Below.heap_setCell _ _ _ _ hq]; exact h1⟩
theorem kFrom_rng {y : Wy} (ok : OkW y) {j : Nat} (hj : j < y.length) : 0 ≤ (kFrom y j).lo ∧ (kFrom y j).hi ≤ 1000 ∧ (kFrom y j).lo ≤ 1001 := by
  have h1 := ok.src0 hj
  have h2 := ok.top j hj
  refine ⟨h1, ?_, by show (nthK y j).src ≤ 1001; omega⟩
  show endK y j ≤ 1000
  unfold endK
  split
  · rename_i h; have := ok.top _ h; omega
  · omega
theorem kTo_rng {y : Wy} (ok : OkW y) {j : Nat} (hj : j < y.length) : 0 ≤ (kTo y j).lo ∧ (kTo y j).hi ≤ 1000 ∧ (kTo y j).lo ≤ 1001 := by
  have h := ok.rng j hj
  exact ⟨h.2.1, h.2.2, by show (nthK y j).lo ≤ 1001; omega⟩
theorem row_zeroA : ∀ w, (zeroValue 136).run Try.prog w = .ok (.agg (rowL noR).toArray) w := row_zero
theorem Gd.one {W : World} {g : Nat} {t : TypeId} {f h : Row} (hG : Gd W g t 1 (upd (fun _ => f) 0 h)) : Gd W g t 1 (fun _ => h) :=
  hG.congr fun i x hi _ => by
    obtain rfl : i = 0 := by omega
    rw [upd_same]

/-- The rows in front, up to a step. -/
def frR (bars : List Rg) (ss : List Stp) (i : Nat) : List Row := (List.range (i + 1)).map fun j => frontF bars (ss.take j)
theorem frR_len (bars : List Rg) (ss : List Stp) (i : Nat) : (frR bars ss i).length = i + 1 := by simp [frR]
theorem frR_succ (bars : List Rg) (ss : List Stp) (i : Nat) : frR bars ss (i + 1) = frR bars ss i ++ [frontF bars (ss.take (i + 1))] := by
  unfold frR
  rw [List.range_succ, List.map_append, List.map_cons, List.map_nil]

theorem i8_slice : Try.prog.underlying 151 = some (.slice 134) := by kernel_rfl
theorem i8_zero (w : World) : (zeroValue 134).run Try.prog w = .ok (.int .i8 0) w := by simp [zeroValue, go_sem, Try.t134]
/-- Rows that are made. -/
theorem make_rows (n : Nat) (hn : n ≤ 100) (W : World) : ∃ cs : Array Value, (Instr.makeSlice 138 (.int .i64 (n : Int)) (.int .i64 (n : Int))).run Try.prog W = .ok (.slice (some ⟨W.heap.size, 0, none⟩) n n) (W.alloc (.cells cs 136)) ∧ Gd (W.alloc (.cells cs 136)) W.heap.size 136 n (fun _ => noR) := by
  obtain ⟨i0, hi0, hz0, hz1, hz2⟩ := info_parts row_info
  have hr := run_make (P := Try.prog) W 138 136 i0 _ rows_slice hi0 hz0 .i64 .i64 n n (by omega) (Int.le_refl _) (by rw [hz2]; omega) (by omega)
  simp only [Int.toNat_natCast, hz1] at hr
  refine ⟨_, hr, _, BK.new _ _ _, by rw [size_madeCells]; exact Nat.le_refl _, fun i h hi hh => ?_⟩
  have hlt : i * 1001 + h < n * 1001 := Nat.lt_of_lt_of_le (by rw [Nat.succ_mul]; exact Nat.add_lt_add_left hh _ : i * 1001 + h < (i + 1) * 1001) (Nat.mul_le_mul_right _ hi)
  have hm : (i * 1001 + h) % 1001 < 1001 := Nat.mod_lt _ (by decide)
  unfold madeCells
  rw [Array.getElem?_map, Array.getElem?_range, if_pos hlt]
  have hz : (Value.agg (Array.replicate 1001 (Value.int .i8 0))).cells = Array.replicate 1001 (.int .i8 0) := rfl
  simp only [hz, Array.size_replicate, Option.map_some]
  rw [getElem!_pos _ _ (by rw [Array.size_replicate]; exact hm), Array.getElem_replicate]
  rfl
section
variable {P : Program} {ops : Array Oper} {Q : Exit → Act → World → Prop}
theorem wp_make_run {o : Oper} {a : Act} {w w' : World} {K : Act → World → Prop} (t : TypeId) (l c : Operand) (v : Value) (ho : o.op = .makeSlice t l c)
    (hrun : (Instr.makeSlice t (a.eval l) (a.eval c)).run P w = .ok v w') (h : K (a.put o.dst v) w') : o.wp P a w K Q := by
  unfold Oper.wp execOp
  simp only [ho, Sem.run_bind, Sem.run_pure, Result.andThen_ok, hrun]
  exact h
theorem wpList_clear_run {rest : List Oper} {o : Oper} {a : Act} {w w' : World} (hgd : o.guard = none) (x : Operand) (t : TypeId) (v : Value)
    (ho : o.op = .call { callee := .builtin .clear, args := #[x], argTypes := #[t] })
    (hrun : (Builtin.clear_ #[t] o.type #[a.eval x]).run P w = .ok v w') (h : wpList P ops Q rest (a.put o.dst v) w') : wpList P ops Q (o :: rest) a w := by
  refine wpList_plain hgd fun K hK => ?_
  unfold Oper.wp execOp
  simp only [ho, resolve, invoke, builtin, Sem.run_bind, Sem.run_pure, Result.andThen_ok, List.map_toArray, List.map_cons, List.map_nil, hrun]
  exact hK _ _ h
end
/-- The rows behind are filled, from the last one on. -/
def rrR (m : Rg) (ss : List Stp) (i : Nat) : Nat → Row := fun j => if i ≤ j then rearF m (ss.drop j) else noR
theorem rrR_step (m : Rg) (ss : List Stp) (i : Nat) : upd (rrR m ss (i + 1)) i (rearF m (ss.drop i)) = rrR m ss i := by
  funext j
  unfold upd rrR
  by_cases h : j = i
  · subst h; rw [if_pos rfl, if_pos (Nat.le_refl _)]
  · rw [if_neg h]
    by_cases h2 : i ≤ j
    · rw [if_pos (by omega), if_pos h2]
    · rw [if_neg (by omega), if_neg h2]
theorem rrR_no (m : Rg) (ss : List Stp) (i : Nat) : rrR m ss (i + 1) i = noR := if_neg (by omega)
theorem rrR_at (m : Rg) (ss : List Stp) (i : Nat) : rrR m ss i i = rearF m (ss.drop i) := if_pos (Nat.le_refl _)
theorem Gd.ne_bk {W : World} {g c : Nat} {t t' : TypeId} {n : Nat} {F : Nat → Row} {cs : Array Value} (h : Gd W g t n F) (hb : BK W c cs t') (ht : t' ≠ t) : c ≠ g := fun e => by
  subst e
  obtain ⟨cs', h1, _⟩ := h
  unfold BK at h1 hb
  rw [h1] at hb
  injection hb with hb
  injection hb with _ hb
  exact ht hb.symm
theorem Marks.not_gd {W : World} {Ds : List Nat} {g : Nat} {t : TypeId} {n : Nat} {F : Nat → Row} (h : Marks Ds W) (hG : Gd W g t n F) : g ∉ Ds := fun hm => by
  obtain ⟨cs, h1, _⟩ := hG
  have := h.2 g hm
  unfold BK at h1
  rw [this] at h1
  cases h1
theorem Gd.putAll {W : World} {Ds : List Nat} {g : Nat} {t : TypeId} {n : Nat} {F : Nat → Row} (hG : Gd W g t n F) (h : Marks Ds W) : Gd (putAll Ds W) g t n F :=
  hG.heap (putAll_other Ds W g (h.not_gd hG))
/-- The tree with its rows behind in block gr. -/
structure NrSt (w : World) (n0 gt : Nat) (vb vs : Value) (m : Rg) (vf : Value) (gr n : Nat) (rows : List Row) (now : Row) (R : Nat → Row) (X : World) : Prop where
  st : NtSt w n0 gt vb vs m vf (.slice (some ⟨gr, 0, none⟩) n n) rows now X
  gx : Gd X gr 136 n R
  ne : vf.ownBlock ≠ some gr
  ge : gt + 1 + 1 + 1 ≤ gr
section
variable {w : World} {n0 gt gr n : Nat} {vb vs vf : Value} {m : Rg} {rows : List Row} {now : Row} {R R' : Nat → Row} {X Y : World}
theorem NrSt.adm {B : Nat} (h : NrSt w n0 gt vb vs m vf gr n rows now R X) (ha : Adm B X Y) (hw : n0 ≤ w.heap.size) (hB : n0 ≤ B) : NrSt w n0 gt vb vs m vf gr n rows now R Y :=
  ⟨h.st.adm ha hw hB, h.gx.adm ha, h.ne, h.ge⟩
theorem NrSt.next (h : NrSt w n0 gt vb vs m vf gr n rows now R X) (hb : Below X.heap.size X Y) (hw : n0 ≤ w.heap.size) : NrSt w n0 gt vb vs m vf gr n rows now R Y :=
  h.adm (Adm.below hb) hw (Nat.le_trans hw (by have := h.st.below.size; omega))
theorem NrSt.put (h : NrSt w n0 gt vb vs m vf gr n rows now R X) (hg : X.grownBy Y (some gr)) (hG : Gd Y gr 136 n R') (hw : n0 ≤ w.heap.size) (hgt : n0 + 2 ≤ gt) : NrSt w n0 gt vb vs m vf gr n rows now R' Y :=
  ⟨h.st.grown hg hw hgt h.ge h.ne, hG, h.ne, h.ge⟩
theorem NrSt.tree {bars : List Rg} {ss : List Stp} {Ds : List Nat} {Ab As : Option Addr} {cb cs : Nat} (h : NrSt w n0 gt (.slice Ab bars.length cb) (.slice As ss.length cs) m vf gr (ss.length + 1) (frR bars ss ss.length) now (rrR m ss 0) X) (hM : Marks Ds X) (hD : ∀ D ∈ Ds, gt + 1 + 1 < D) (hw : n0 ≤ w.heap.size) (hgt : n0 + 2 ≤ gt)
    (hB : RR w n0 (.slice Ab bars.length cb) bars) (hS : RP w n0 (.slice As ss.length cs) ss) : TreeM (putAll Ds X) gt (.slice Ab bars.length cb) (.slice As ss.length cs) m bars ss ∧ Below n0 w (putAll Ds X) := by
  have hbw : Below n0 w (putAll Ds X) := putAll_below Ds X h.st.below fun D hd => by have := hD D hd; omega
  have hsz : n0 ≤ (putAll Ds X).heap.size := Nat.le_trans hw hbw.size
  obtain ⟨gf, cf, rfl, hcf, _, hgf⟩ := h.st.fx.gd (by rw [frR_len]; omega)
  rw [frR_len] at hcf hgf
  have htx := h.st.tx
  rw [frR_len] at htx
  have hgt2 : gt ∉ Ds := fun hm => by have := hD gt hm; omega
  refine ⟨⟨gf, cf, gr, _, (putAll_other Ds X gt hgt2).trans htx, hcf, Nat.le_refl _, (hgf.putAll hM).congr fun i x hi hx => ?_, (h.gx.putAll hM).congr fun i x hi hx => ?_, (RS.below hB hbw).more hsz, RP.more (RP.below hS hbw) hsz⟩, hbw⟩
  · rw [List.getD_eq_getElem?_getD, List.getElem?_eq_getElem (by rw [frR_len]; exact hi)]
    simp [frR]
  · rw [rrR, if_pos (Nat.zero_le _)]
end
end Go.Proofs.Ytkibdciomheekaa
