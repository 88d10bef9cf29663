/- Lists in a temporary that grow, and that are cut short. CheckPair, of the program and of the reference. A region in a round, by the walk of the plain mode; a region that draws its order: reads first, then one operation after another, 'S' holding wherever a read may still be to come. A region that draws its order, taken step by step: reads first, then each operation that may come. The reads of a region that draws, first, all at once; what is left comes step by step. -/
import Derived.Test.YtbjmkmambmeifaaP1
import Derived.Deep.QuietTactic
import Derived.BigQuiet
import Derived.Deep.DeepCutAuto
import Derived.OrdersHeld
import Derived.StillTail
import Derived.Test.YtbjmkmambmeifaaRows
import Derived.Deep.RegionHeld3
set_option linter.all false
set_option linter.unnecessarySimpa false
set_option linter.unusedSimpArgs false
set_option linter.unusedVariables false
set_option linter.unusedSectionVars false

namespace Go.Proofs.Ytbjmkmambmeifaa
open Go.RowKit

/-- What is appended (the element lies in the block made last), the list lying in a temporary. -/
theorem app_t {P : Program} {t e size bytes : Nat} {z : Value} (hinf : (P.info? e).map (fun i => (i.zero, i.size, i.bytes)) = some (some z, size, bytes)) (ht : P.underlying t = some (.slice e)) (hzs : z.cells.size = size) (hsz : 0 < size) (hb1 : bytes ≤ 1000)
    {base n : Nat} {w0 w1 : World} {xs news : List Value} {v : Value} (hown : w1.ownsRow base e size v n xs) (hl : news.length = size) (h1 : ∀ u ∈ news, u.oneCell' = true) (hn : n ≤ 100000) (hbase : base ≤ w1.heap.size) (hbw : Below base w0 w1) (ty tn : Nat) (B : Nat) (hB : w1.heap.size = B) :
    ∃ g' cap' w2, (Builtin.append_ #[t, t] ty #[v, .slice (some ⟨B, 0, none⟩) 1 1]).run P (w1.alloc (.cells news.toArray tn)) = .ok (.slice (some ⟨g', 0, none⟩) (n + 1) cap') w2 ∧
      w2.ownsRow base e size (.slice (some ⟨g', 0, none⟩) (n + 1) cap') (n + 1) (xs ++ news) ∧ Below base w0 w2 ∧ w1.heap.size ≤ w2.heap.size ∧ (∀ k cs t, BK w1 k cs t → t ≠ e → BK w2 k cs t) := by
  subst hB
  obtain ⟨i0, hi0, hz0, hz1, hz2⟩ := info_parts hinf
  obtain ⟨g', cap', w2, hrun, hown', hgr, hg'⟩ := app1 (P := P) t ty e i0 z size bytes ht hi0 hz0 hz1 hz2 hzs hsz hb1 base (w1.alloc (.cells news.toArray tn)) v n xs (hown.alloc _) w1.heap.size news tn (BK.new _ _ _) hl h1 hn (by simp; omega)
  have hs2 := hgr.size
  simp at hs2
  refine ⟨g', cap', w2, hrun, hown', ?_, by omega, ?_⟩
  · exact Below.grown (hbw.alloc hbase _) hgr (by simp; omega) fun k hk => (hown.lt k hk).1
  · intro k cs t hk hte
    refine (hk.alloc _).grown hgr ?_
    intro hq
    obtain ⟨c, hc⟩ := own_block hown hq.symm
    unfold BK at hk
    rw [hk] at hc; injection hc with hc; injection hc with _ hc; exact hte hc

theorem own_cut {W : World} {base e size n : Nat} {xs : List Value} {g cap : Nat} (h : W.ownsRow base e size (.slice (some ⟨g, 0, none⟩) n cap) n xs) {m : Nat} (hm : m ≤ n) :
    W.ownsRow base e size (.slice (some ⟨g, 0, none⟩) m cap) m (xs.take (m * size)) := by
  obtain ⟨hl, h2⟩ := h
  have hms : m * size ≤ n * size := Nat.mul_le_mul_right _ hm
  refine ⟨by rw [List.length_take, hl, Nat.min_eq_left hms], .inr ?_⟩
  rcases h2 with ⟨hv, _⟩ | ⟨g2, c2, cur, hv, hb, hh, h3, h4, h5, h6⟩
  · cases hv
  · injection hv with hv1 hv2 hv3
    injection hv1 with hv1; injection hv1 with hv1
    subst hv1; subst hv3
    refine ⟨g, cap, cur, rfl, hb, hh, by omega, h4, h5, ?_⟩
    rw [← h6, List.take_take, Nat.min_eq_left hms]

theorem i64_info : (Try.prog.info? 2).map (fun i => (i.zero, i.size, i.bytes)) = some (some (.int .i64 0), 1, 8) := by kernel_rfl
theorem i64_slice : Try.prog.underlying 23 = some (.slice 2) := by kernel_rfl
theorem int_info : (Try.prog.info? 3).map (fun i => (i.zero, i.size, i.bytes)) = some (some (.int .i64 0), 1, 8) := by kernel_rfl
theorem int_slice : Try.prog.underlying 29 = some (.slice 3) := by kernel_rfl
theorem st_info : (Try.prog.info? 62).map (fun i => (i.zero, i.size, i.bytes)) = some (some (.agg #[.int .i64 0, .int .i64 0, .int .i64 0]), 3, 24) := by kernel_rfl
theorem st_slice : Try.prog.underlying 22 = some (.slice 62) := by kernel_rfl
theorem pt_info : (Try.prog.info? 85).map (fun i => (i.zero, i.size, i.bytes)) = some (some (.agg #[.int .i64 0, .int .i64 0, .int .i64 0, .int .i64 0, .int .i64 0]), 5, 40) := by kernel_rfl
theorem pt_slice : Try.prog.underlying 98 = some (.slice 85) := by kernel_rfl

theorem ofI_app (l : List Int) (x : Int) : ofI l ++ [.int .i64 x] = ofI (l ++ [x]) := by simp [ofI]
theorem ofI_length (l : List Int) : (ofI l).length = l.length := by simp [ofI]
theorem ofR_app (l : List Ra) (x : Ra) : ofR l ++ [.int .i64 x.num, .int .i64 x.den] = ofR (l ++ [x]) := by simp [ofR]
theorem ofS_app (l : List St) (x : St) : ofS l ++ [.int .i64 x.a, .int .i64 x.lo, .int .i64 x.hi] = ofS (l ++ [x]) := by simp [ofS]

/-- A list of numbers (of type int, int64), of ratios, of stations, that grows. -/
def OwnI (T : Nat) (W : World) (base : Nat) (v : Value) (l : List Int) : Prop := W.ownsRow base T 1 v l.length (ofI l)
def OwnR (W : World) (base : Nat) (v : Value) (l : List Ra) : Prop := W.ownsRow base 25 2 v l.length (ofR l)
def OwnS (W : World) (base : Nat) (v : Value) (l : List St) : Prop := W.ownsRow base 62 3 v l.length (ofS l)
theorem OwnI.nil (T : Nat) (W : World) (base : Nat) : OwnI T W base (.slice none 0 0) [] := ⟨by simp [ofI], .inl ⟨rfl, rfl⟩⟩
theorem OwnR.nil (W : World) (base : Nat) : OwnR W base (.slice none 0 0) [] := ⟨by simp [ofR], .inl ⟨rfl, rfl⟩⟩
theorem OwnS.nil (W : World) (base : Nat) : OwnS W base (.slice none 0 0) [] := ⟨by simp [ofS], .inl ⟨rfl, rfl⟩⟩
theorem own_below {W W' : World} {base e sz n : Nat} {v : Value} {cs : List Value} (h : W.ownsRow base e sz v n cs) (hb : Below W.heap.size W W') : W'.ownsRow base e sz v n cs := (Adm.below (B := 0) hb).own h
theorem OwnI.below {T : Nat} {W W' : World} {base : Nat} {v : Value} {l : List Int} (h : OwnI T W base v l) (hb : Below W.heap.size W W') : OwnI T W' base v l := own_below h hb
theorem OwnR.below {W W' : World} {base : Nat} {v : Value} {l : List Ra} (h : OwnR W base v l) (hb : Below W.heap.size W W') : OwnR W' base v l := own_below h hb
theorem OwnS.below {W W' : World} {base : Nat} {v : Value} {l : List St} (h : OwnS W base v l) (hb : Below W.heap.size W W') : OwnS W' base v l := own_below h hb
theorem OwnI.ri {T : Nat} {W : World} {base : Nat} {v : Value} {l : List Int} (h : OwnI T W base v l) : RI W W.heap.size v l := RS.of_own h
theorem OwnR.ri {W : World} {base : Nat} {v : Value} {l : List Ra} (h : OwnR W base v l) : RRa W W.heap.size v l := RS.of_own h
theorem OwnS.ri {W : World} {base : Nat} {v : Value} {l : List St} (h : OwnS W base v l) : RSt W W.heap.size v l := RS.of_own h

theorem app_int {base : Nat} {w0 w1 : World} {l : List Int} {v : Value} (hown : OwnI 3 w1 base v l) (x : Int) (hn : l.length ≤ 100000) (hbase : base ≤ w1.heap.size) (hbw : Below base w0 w1) (B : Nat) (hB : w1.heap.size = B) :
    ∃ v' w2, (Builtin.append_ #[29, 29] 29 #[v, .slice (some ⟨B, 0, none⟩) 1 1]).run Try.prog (w1.alloc (.cells #[.int .i64 x] 3)) = .ok v' w2 ∧
      OwnI 3 w2 base v' (l ++ [x]) ∧ Below base w0 w2 ∧ w1.heap.size ≤ w2.heap.size ∧ (∀ k cs t, BK w1 k cs t → t ≠ 3 → BK w2 k cs t) := by
  obtain ⟨g', cap', w2, h1, h2, h3, h4, h5⟩ := app_t int_info int_slice rfl (by decide) (by decide) hown (news := [.int .i64 x]) rfl (by intro u hu; simp at hu; subst hu; rfl) hn hbase hbw 29 3 B hB
  exact ⟨_, w2, h1, by rw [ofI_app] at h2; unfold OwnI; simpa using h2, h3, h4, h5⟩
theorem app_i64 {base : Nat} {w0 w1 : World} {l : List Int} {v : Value} (hown : OwnI 2 w1 base v l) (x : Int) (hn : l.length ≤ 100000) (hbase : base ≤ w1.heap.size) (hbw : Below base w0 w1) (B : Nat) (hB : w1.heap.size = B) :
    ∃ v' w2, (Builtin.append_ #[23, 23] 23 #[v, .slice (some ⟨B, 0, none⟩) 1 1]).run Try.prog (w1.alloc (.cells #[.int .i64 x] 2)) = .ok v' w2 ∧
      OwnI 2 w2 base v' (l ++ [x]) ∧ Below base w0 w2 ∧ w1.heap.size ≤ w2.heap.size ∧ (∀ k cs t, BK w1 k cs t → t ≠ 2 → BK w2 k cs t) := by
  obtain ⟨g', cap', w2, h1, h2, h3, h4, h5⟩ := app_t i64_info i64_slice rfl (by decide) (by decide) hown (news := [.int .i64 x]) rfl (by intro u hu; simp at hu; subst hu; rfl) hn hbase hbw 23 2 B hB
  exact ⟨_, w2, h1, by rw [ofI_app] at h2; unfold OwnI; simpa using h2, h3, h4, h5⟩
theorem app_ra {base : Nat} {w0 w1 : World} {l : List Ra} {v : Value} (hown : OwnR w1 base v l) (x : Ra) (hn : l.length ≤ 100000) (hbase : base ≤ w1.heap.size) (hbw : Below base w0 w1) (B : Nat) (hB : w1.heap.size = B) :
    ∃ v' w2, (Builtin.append_ #[26, 26] 26 #[v, .slice (some ⟨B, 0, none⟩) 1 1]).run Try.prog (w1.alloc (.cells #[.int .i64 x.num, .int .i64 x.den] 25)) = .ok v' w2 ∧
      OwnR w2 base v' (l ++ [x]) ∧ Below base w0 w2 ∧ w1.heap.size ≤ w2.heap.size ∧ (∀ k cs t, BK w1 k cs t → t ≠ 25 → BK w2 k cs t) := by
  obtain ⟨g', cap', w2, h1, h2, h3, h4, h5⟩ := app_t ratio_info ratio_slice rfl (by decide) (by decide) hown (news := [.int .i64 x.num, .int .i64 x.den]) rfl (by intro u hu; simp at hu; rcases hu with rfl | rfl <;> rfl) hn hbase hbw 26 25 B hB
  exact ⟨_, w2, h1, by rw [ofR_app] at h2; unfold OwnR; simpa using h2, h3, h4, h5⟩
theorem app_st {base : Nat} {w0 w1 : World} {l : List St} {v : Value} (hown : OwnS w1 base v l) (x : St) (hn : l.length ≤ 100000) (hbase : base ≤ w1.heap.size) (hbw : Below base w0 w1) (B : Nat) (hB : w1.heap.size = B) :
    ∃ v' w2, (Builtin.append_ #[22, 22] 22 #[v, .slice (some ⟨B, 0, none⟩) 1 1]).run Try.prog (w1.alloc (.cells #[.int .i64 x.a, .int .i64 x.lo, .int .i64 x.hi] 62)) = .ok v' w2 ∧
      OwnS w2 base v' (l ++ [x]) ∧ Below base w0 w2 ∧ w1.heap.size ≤ w2.heap.size ∧ (∀ k cs t, BK w1 k cs t → t ≠ 62 → BK w2 k cs t) := by
  obtain ⟨g', cap', w2, h1, h2, h3, h4, h5⟩ := app_t st_info st_slice rfl (by decide) (by decide) hown (news := [.int .i64 x.a, .int .i64 x.lo, .int .i64 x.hi]) rfl (by intro u hu; simp at hu; rcases hu with rfl | rfl | rfl <;> rfl) hn hbase hbw 22 62 B hB
  exact ⟨_, w2, h1, by rw [ofS_app] at h2; unfold OwnS; simpa using h2, h3, h4, h5⟩

/-- A point's cells; a list of points, by their names. -/
def ptC (l : List St) (hs : List Int) (k : Nat) : List Value := [.int .i64 (nthS l k).a, .int .i64 (nthS l k).lo, .int .i64 (nthS l k).hi, .int .i64 k, .int .i64 (nthI hs k)]
def ofP (l : List St) (hs : List Int) (L : List Nat) : List Value := L.flatMap (ptC l hs)
def OwnP (W : World) (base : Nat) (v : Value) (l : List St) (hs : List Int) (L : List Nat) : Prop := W.ownsRow base 85 5 v L.length (ofP l hs L)
theorem OwnP.nil (W : World) (base : Nat) (l : List St) (hs : List Int) : OwnP W base (.slice none 0 0) l hs [] := ⟨by simp [ofP], .inl ⟨rfl, rfl⟩⟩
theorem OwnP.below {W W' : World} {base : Nat} {v : Value} {l : List St} {hs : List Int} {L : List Nat} (h : OwnP W base v l hs L) (hb : Below W.heap.size W W') : OwnP W' base v l hs L := own_below h hb
theorem ofP_length (l : List St) (hs : List Int) (L : List Nat) : (ofP l hs L).length = L.length * 5 := by
  induction L with
  | nil => rfl
  | cons a t ih => simp only [ofP, List.flatMap_cons, List.length_append, List.length_cons, List.length_nil, ptC] at *; omega
theorem ofP_at (l : List St) (hs : List Int) (L : List Nat) : ∀ j, j < L.length → (ofP l hs L)[j * 5]? = some (.int .i64 (nthS l (L.getD j 0)).a) ∧ (ofP l hs L)[j * 5 + 1]? = some (.int .i64 (nthS l (L.getD j 0)).lo) ∧ (ofP l hs L)[j * 5 + 2]? = some (.int .i64 (nthS l (L.getD j 0)).hi) ∧
    (ofP l hs L)[j * 5 + 3]? = some (.int .i64 (L.getD j 0 : Nat)) ∧ (ofP l hs L)[j * 5 + 4]? = some (.int .i64 (nthI hs (L.getD j 0))) := by
  induction L with
  | nil => intro j hj; simp at hj
  | cons x t ih =>
    intro j hj
    cases j with
    | zero => simp [ofP, ptC]
    | succ j =>
      have := ih j (by simpa using hj)
      have e : ∀ i, (j + 1) * 5 + i = (j * 5 + i) + 5 := by intro i; omega
      have e0 : (j + 1) * 5 = j * 5 + 5 := by omega
      simpa [ofP, ptC, e, e0] using this
theorem ofP_take (l : List St) (hs : List Int) : ∀ (L : List Nat) (m : Nat), (ofP l hs L).take (m * 5) = ofP l hs (L.take m)
  | [], m => by simp [ofP]
  | x :: t, 0 => by simp [ofP]
  | x :: t, m + 1 => by
    have := ofP_take l hs t m
    have e0 : (m + 1) * 5 = m * 5 + 5 := by omega
    simp only [ofP, List.flatMap_cons, ptC, List.cons_append, List.nil_append, e0, List.take_succ_cons] at this ⊢
    rw [this]
theorem OwnP.cells {W : World} {base : Nat} {v : Value} {l : List St} {hs : List Int} {L : List Nat} (h : OwnP W base v l hs L) (h0 : 0 < L.length) : ∃ g cap, v = .slice (some ⟨g, 0, none⟩) L.length cap ∧ g < W.heap.size ∧ L.length ≤ cap ∧
    ∀ j, j < L.length → W.cell? ⟨g, j * 5, none⟩ = some (.int .i64 (nthS l (L.getD j 0)).a) ∧ W.cell? ⟨g, j * 5 + 1, none⟩ = some (.int .i64 (nthS l (L.getD j 0)).lo) ∧ W.cell? ⟨g, j * 5 + 2, none⟩ = some (.int .i64 (nthS l (L.getD j 0)).hi) ∧
      W.cell? ⟨g, j * 5 + 3, none⟩ = some (.int .i64 (L.getD j 0 : Nat)) ∧ W.cell? ⟨g, j * 5 + 4, none⟩ = some (.int .i64 (nthI hs (L.getD j 0))) := by
  have hlen := ofP_length l hs L
  rcases h.2 with ⟨_, h1⟩ | ⟨g, cap, cur, hv, hb, hh, h3, h4, h5, h6⟩
  · omega
  · refine ⟨g, cap, hv, (Array.getElem?_eq_some_iff.1 hh).1, h3, fun j hj => ?_⟩
    have hp := ofP_at l hs L j hj
    have hx : ∀ i, i < L.length * 5 → W.cell? ⟨g, i, none⟩ = (ofP l hs L)[i]? := by
      intro i hi
      rw [cell_of_row W g i cur _ (0, 0) hh, ← h6, List.getElem?_take_of_lt hi]
      simp
    rw [hx _ (by omega), hx _ (by omega), hx _ (by omega), hx _ (by omega), hx _ (by omega)]
    exact hp
theorem OwnP.cut {W : World} {base : Nat} {l : List St} {hs : List Int} {L : List Nat} {g cap : Nat} {n : Nat} (h : OwnP W base (.slice (some ⟨g, 0, none⟩) n cap) l hs L) (hn : n = L.length) {m : Nat} (hm : m ≤ L.length) : OwnP W base (.slice (some ⟨g, 0, none⟩) m cap) l hs (L.take m) := by
  subst hn
  have := own_cut h hm
  rw [ofP_take] at this
  unfold OwnP
  rw [List.length_take, Nat.min_eq_left hm]
  exact this
theorem app_pt {base : Nat} {w0 w1 : World} {l : List St} {hs : List Int} {L : List Nat} {v : Value} (hown : OwnP w1 base v l hs L) (k : Nat) (hn : L.length ≤ 100000) (hbase : base ≤ w1.heap.size) (hbw : Below base w0 w1) (B : Nat) (hB : w1.heap.size = B) :
    ∃ v' w2, (Builtin.append_ #[98, 98] 98 #[v, .slice (some ⟨B, 0, none⟩) 1 1]).run Try.prog (w1.alloc (.cells #[.int .i64 (nthS l k).a, .int .i64 (nthS l k).lo, .int .i64 (nthS l k).hi, .int .i64 k, .int .i64 (nthI hs k)] 85)) = .ok v' w2 ∧
      OwnP w2 base v' l hs (L ++ [k]) ∧ Below base w0 w2 ∧ w1.heap.size ≤ w2.heap.size ∧ (∀ k cs t, BK w1 k cs t → t ≠ 85 → BK w2 k cs t) := by
  obtain ⟨g', cap', w2, h1, h2, h3, h4, h5⟩ := app_t pt_info pt_slice rfl (by decide) (by decide) hown (news := ptC l hs k) rfl (by intro u hu; simp [ptC] at hu; rcases hu with rfl | rfl | rfl | rfl | rfl <;> rfl) hn hbase hbw 98 85 B hB
  refine ⟨_, w2, h1, ?_, h3, h4, h5⟩
  have : ofP l hs (L ++ [k]) = ofP l hs L ++ ptC l hs k := by simp [ofP]
  unfold OwnP
  rw [this]; simpa using h2
end Go.Proofs.Ytbjmkmambmeifaa

namespace Go.Proofs.Ytbjmkmambmeifaa
open Go.RowKit

def goodSt (p : Int) (s : St) : Bool := inB p 1000 s.a && (inB (-1000) 1000 s.lo && inB (-1000) 1000 s.hi) && decide (s.lo ≤ s.hi)
def prevSt (l : List St) (k : Nat) : Int := if k = 0 then 0 else (nthS l (k - 1)).a + 1
def okSt (l : List St) (k : Nat) : Bool := goodSt (prevSt l k) (nthS l k)
def allOk (l : List St) : Prop := ∀ k, k < l.length → okSt l k = true
instance (l : List St) : Decidable (allOk l) := by unfold allOk; infer_instance
def checkPair (l : List St) : Int := if l.length = 0 ∨ 25 < l.length then 6 else if allOk l then 0 else 3

theorem checkPair_many (l : List St) (h : l.length = 0 ∨ 25 < l.length) : checkPair l = 6 := by rw [checkPair, if_pos h]
theorem checkPair_bad (l : List St) (h : ¬(l.length = 0 ∨ 25 < l.length)) (k : Nat) (hk : k < l.length) (hb : okSt l k = false) : checkPair l = 3 := by
  rw [checkPair, if_neg h, if_neg]
  intro h2; rw [h2 k hk] at hb; cases hb
theorem checkPair_ok (l : List St) (h : ¬(l.length = 0 ∨ 25 < l.length)) (hb : ∀ k, k < l.length → okSt l k = true) : checkPair l = 0 := by
  rw [checkPair, if_neg h, if_pos]; exact hb
theorem prevSt_succ (l : List St) (k : Nat) : prevSt l (k + 1) = (nthS l k).a + 1 := by simp [prevSt]
theorem ret_int {k : IntKind} {a b : Int} (h : a = b) : Ending.returned (.int k a) = .returned (.int k b) := by rw [h]

set_option maxHeartbeats 1000000 in
theorem checkPair_any (l : List St) (v : Value) (w : World) (hl : l.length ≤ 1000) (h : RSt w w.heap.size v l) :
    Calls Try.prog 19 #[v] w fun e w' => e = .returned (.int .i64 (checkPair l)) ∧ Below w.heap.size w w' := by
  obtain ⟨A, cap, b, off, rfl, hA, hc⟩ := h.cells
  by_cases h0 : l.length = 0 ∨ 25 < l.length
  · have hr := Lib.hid (checkPair_many l h0)
    by_cases hz : l.length = 0
    · have HE : ((l.length : Int) == 0) = true := by simpa using hz
      clear hz
      go_enter Try.func19, Try.ntmps19
      go_wp2_with fail
      go_ret
      exact ⟨ret_int hr.out.symm, Below.refl _ _⟩
    · have HE : ((l.length : Int) == 0) = false := by simpa using hz
      have h1 : 25 < l.length := by omega
      clear hz
      go_enter Try.func19, Try.ntmps19
      go_wp2_with fail
      go_ret
      exact ⟨ret_int hr.out.symm, Below.refl _ _⟩
  · have hn0 : 0 < l.length := by omega
    have hn1 : l.length ≤ 25 := by omega
    obtain ⟨rfl, hb⟩ := hA (by omega)
    have H0 := Lib.hid h0; clear h0
    have HC := Lib.hid hc; clear hc hA
    have HE : ((l.length : Int) == 0) = false := by simpa using (by omega : l.length ≠ 0)
    go_enter Try.func19, Try.ntmps19
    go_wp2_with fail
    go_loopw [3, 16] (fun n i wr => ∃ k : Nat, k ≤ l.length ∧ i = .int .i64 k ∧ n = .int .i64 (prevSt l k) ∧ 0 ≤ prevSt l k ∧ Below w.heap.size w wr ∧ ∀ j, j < k → okSt l j = true) (fun _ i _ => l.length - (intOf i).toNat)
    case atStart => exact ⟨0, Nat.zero_le _, rfl, rfl, by simp [prevSt], Below.refl _ _, fun j hj => absurd hj (by omega)⟩
    case round =>
      obtain ⟨k, hk, rfl, rfl, hp0, hbw, hall⟩ := hrel
      have HA := Lib.hid hall; clear hall
      by_cases hlt : k < l.length
      · have hcell := HC.out k hlt
        rw [← hbw.cell (by exact hb), ← hbw.cell (by exact hb), ← hbw.cell (by exact hb)] at hcell
        obtain ⟨c0, c1, c2⟩ := hcell
        have hsz := hbw.size
        have hbw' : b < wr.heap.size := by omega
        have hgo : okSt l k = ((inB (prevSt l k) 1000 (nthS l k).a && (inB (-1000) 1000 (nthS l k).lo && inB (-1000) 1000 (nthS l k).hi)) && decide ((nthS l k).lo ≤ (nthS l k).hi)) := rfl
        have HG := Lib.hid hgo; clear hgo
        cases e1 : inB (prevSt l k) 1000 (nthS l k).a with
        | false =>
          have HB := Lib.hid (checkPair_bad l H0.out k hlt (by rw [HG.out, e1]; rfl)); clear HG
          go_wp2_with (go_at_call 50; refine (within_1 _ _ _ _ _ (by simp)).mono ?_; rintro e w' ⟨rfl, rfl⟩)
          go_ret
          exact ⟨ret_int HB.out.symm, by exact bel_of⟩
        | true =>
          cases e2 : (inB (-1000) 1000 (nthS l k).lo && inB (-1000) 1000 (nthS l k).hi) with
          | false =>
            have HB := Lib.hid (checkPair_bad l H0.out k hlt (by rw [HG.out, e1, e2]; rfl)); clear HG
            go_wp2_with fail
            refine (within_1 _ _ _ _ _ (by simp)).mono ?_; rintro e w' ⟨rfl, rfl⟩
            go_wp2_with fail
            refine (within_2 _ _ _ _ _ _ (by simp)).mono ?_; rintro e w' ⟨rfl, rfl⟩
            go_wp2_with fail
            go_ret
            exact ⟨ret_int HB.out.symm, by exact bel_of⟩
          | true =>
            by_cases e3 : (nthS l k).lo ≤ (nthS l k).hi
            · have hok : okSt l k = true := by rw [HG.out, e1, e2]; simpa using e3
              have HK := Lib.hid hok; clear hok HG
              obtain ⟨hb1, hb2⟩ := (inB_iff _ _ _).1 e1
              go_wp2_with fail
              refine (within_1 _ _ _ _ _ (by simp)).mono ?_; rintro e w' ⟨rfl, rfl⟩
              go_wp2_with fail
              refine (within_2 _ _ _ _ _ _ (by simp)).mono ?_; rintro e w' ⟨rfl, rfl⟩
              go_wp2_with fail
              go_roundw
              case rel => exact ⟨k + 1, by omega, by go_num, by rw [prevSt_succ], by rw [prevSt_succ]; omega, by exact bel_of, fun j hj => by
                rcases Nat.lt_succ_iff_lt_or_eq.1 hj with h | rfl
                · exact HA.out j h
                · exact HK.out⟩
              case measure => simp [intOf]; omega
            · have HB := Lib.hid (checkPair_bad l H0.out k hlt (by rw [HG.out, e1, e2]; simpa using e3)); clear HG
              go_wp2_with fail
              refine (within_1 _ _ _ _ _ (by simp)).mono ?_; rintro e w' ⟨rfl, rfl⟩
              go_wp2_with fail
              refine (within_2 _ _ _ _ _ _ (by simp)).mono ?_; rintro e w' ⟨rfl, rfl⟩
              go_wp2_with fail
              go_ret
              exact ⟨ret_int HB.out.symm, by exact bel_of⟩
      · go_wp2
        go_ret
        exact ⟨ret_int (checkPair_ok l H0.out fun j hj => HA.out j (by omega)).symm, hbw⟩

def refA (l : List St) (k : Nat) : Bool := decide ((nthS l k).a < 0) || decide (1000 < (nthS l k).a) || (decide (0 < k) && decide ((nthS l k).a ≤ (nthS l (k - 1)).a))
def refB (l : List St) (k : Nat) : Bool := decide ((nthS l k).lo < -1000) || decide ((nthS l k).hi < (nthS l k).lo) || decide (1000 < (nthS l k).hi)

theorem okSt_at (l : List St) (k : Nat) (h : okSt l k = true) : prevSt l k ≤ (nthS l k).a ∧ (nthS l k).a ≤ 1000 ∧ -1000 ≤ (nthS l k).lo ∧ (nthS l k).lo ≤ (nthS l k).hi ∧ (nthS l k).hi ≤ 1000 := by
  simp [okSt, goodSt, inB] at h; omega
theorem refA_bad (l : List St) (k : Nat) (hp : 0 ≤ prevSt l k) (h : refA l k = true) : okSt l k = false := by
  rw [← Bool.not_eq_true]; intro h2
  have := okSt_at l k h2
  simp [refA] at h
  by_cases hk : k = 0
  · simp [hk] at h; subst hk; omega
  · unfold prevSt at this hp; rw [if_neg hk] at this hp
    rcases h with h | h <;> omega
theorem refB_bad (l : List St) (k : Nat) (h : refB l k = true) : okSt l k = false := by
  rw [← Bool.not_eq_true]; intro h2
  have := okSt_at l k h2
  simp [refB] at h; omega
theorem ref_ok (l : List St) (k : Nat) (hp : 0 ≤ prevSt l k) (h : refA l k = false) (h2 : refB l k = false) : okSt l k = true := by
  simp [refA] at h; simp [refB] at h2
  simp [okSt, goodSt, inB]
  unfold prevSt
  by_cases hk : k = 0
  · simp [hk] at *; omega
  · simp [hk]; have := h.2 (by omega); omega

set_option maxHeartbeats 2000000 in
theorem refCheckPair_any (l : List St) (v : Value) (w : World) (hl : l.length ≤ 1000) (h : RSt w w.heap.size v l) :
    Calls Try.prog 20 #[v] w fun e w' => e = .returned (.int .i64 (checkPair l)) ∧ Below w.heap.size w w' := by
  obtain ⟨A, cap, b, off, rfl, hA, hc⟩ := h.cells
  by_cases h0 : l.length = 0 ∨ 25 < l.length
  · have hr := Lib.hid (checkPair_many l h0)
    by_cases hz : l.length < 1
    · go_enter Try.func20, Try.ntmps20
      go_wp2_with fail
      go_ret
      exact ⟨ret_int hr.out.symm, Below.refl _ _⟩
    · have h1 : 25 < l.length := by omega
      go_enter Try.func20, Try.ntmps20
      go_wp2_with fail
      go_ret
      exact ⟨ret_int hr.out.symm, Below.refl _ _⟩
  · have hn0 : 0 < l.length := by omega
    have hn1 : l.length ≤ 25 := by omega
    obtain ⟨rfl, hb⟩ := hA (by omega)
    have H0 := Lib.hid h0; clear h0
    have HC := Lib.hid hc; clear hc hA
    go_enter Try.func20, Try.ntmps20
    go_wp2_with fail
    go_loopw [3] (fun i wr => ∃ k : Nat, k ≤ l.length ∧ i = .int .i64 k ∧ 0 ≤ prevSt l k ∧ Below w.heap.size w wr ∧ ∀ j, j < k → okSt l j = true) (fun i _ => l.length - (intOf i).toNat)
    case atStart => exact ⟨0, Nat.zero_le _, rfl, by simp [prevSt], Below.refl _ _, fun j hj => absurd hj (by omega)⟩
    case round =>
      obtain ⟨k, hk, rfl, hp0, hbw, hall⟩ := hrel
      have HA := Lib.hid hall; clear hall
      by_cases hlt : k < l.length
      · have hcell := HC.out k hlt
        rw [← hbw.cell (by exact hb), ← hbw.cell (by exact hb), ← hbw.cell (by exact hb)] at hcell
        obtain ⟨c0, c1, c2⟩ := hcell
        have hsz := hbw.size
        have hbw' : b < wr.heap.size := by omega
        go_upto_region 6 with fail
        go_cut [49] (fun v wx => v = .bool (refA l k) ∧ ∃ n, wx = wr.drewN n)
        case first =>
          have paths : (nthS l k).a < 0 ∨ (¬ (nthS l k).a < 0 ∧ 1000 < (nthS l k).a) ∨ (¬ (nthS l k).a < 0 ∧ ¬ 1000 < (nthS l k).a ∧ 0 < k ∧ (nthS l k).a ≤ (nthS l (k - 1)).a) ∨
              (¬ (nthS l k).a < 0 ∧ ¬ 1000 < (nthS l k).a ∧ 0 < k ∧ ¬ (nthS l k).a ≤ (nthS l (k - 1)).a) ∨ (¬ (nthS l k).a < 0 ∧ ¬ 1000 < (nthS l k).a ∧ ¬ 0 < k) := by omega
          rcases paths with h1 | ⟨h1, h2⟩ | ⟨h1, h2, h3, h4⟩ | ⟨h1, h2, h3, h4⟩ | ⟨h1, h2, h3⟩
          · have d1 := decide_eq_true h1
            go_quiet (fail)
            go_wp2_with fail
            go_meet
            exact ⟨by simp [refA, *], _, rfl⟩
          · have d1 := decide_eq_false h1
            have d2 := decide_eq_true h2
            go_quiet (fail)
            go_wp2_with fail
            go_meet
            exact ⟨by simp [refA, *], _, rfl⟩
          · have d1 := decide_eq_false h1
            have d2 := decide_eq_false h2
            have d3 : decide ((0 : Int) < (k : Int)) = true := by simpa using h3
            have d4 := decide_eq_true h4
            have _hp : ((k : Int) - 1).toNat = k - 1 := by omega
            have hcell := HC.out (k - 1) (by omega)
            rw [← hbw.cell (by exact hb), ← hbw.cell (by exact hb), ← hbw.cell (by exact hb)] at hcell
            obtain ⟨e0, e1, e2⟩ := hcell
            go_quiet (fail)
            go_wp2_with fail
            go_meet
            exact ⟨by simp [refA, *], _, rfl⟩
          · have d1 := decide_eq_false h1
            have d2 := decide_eq_false h2
            have d3 : decide ((0 : Int) < (k : Int)) = true := by simpa using h3
            have d4 := decide_eq_false h4
            have _hp : ((k : Int) - 1).toNat = k - 1 := by omega
            have hcell := HC.out (k - 1) (by omega)
            rw [← hbw.cell (by exact hb), ← hbw.cell (by exact hb), ← hbw.cell (by exact hb)] at hcell
            obtain ⟨e0, e1, e2⟩ := hcell
            go_quiet (fail)
            go_wp2_with fail
            go_meet
            exact ⟨by simp [refA, *], _, rfl⟩
          · have d1 := decide_eq_false h1
            have d2 := decide_eq_false h2
            have d3 : decide ((0 : Int) < (k : Int)) = false := by simpa using h3
            go_quiet (fail)
            go_wp2_with fail
            go_meet
            exact ⟨by simp [refA, *], _, rfl⟩
        case rest =>
          obtain ⟨rfl, n, rfl⟩ := hcut
          cases hra : refA l k with
          | true =>
            have HB := Lib.hid (checkPair_bad l H0.out k hlt (refA_bad l k hp0 hra)); clear hra
            go_wp2_with fail
            go_ret
            exact ⟨ret_int HB.out.symm, by exact bel_of⟩
          | false =>
            have HRA := Lib.hid hra; clear hra
            go_upto_region 8 with fail
            go_cut [80] (fun v wx => v = .bool (refB l k) ∧ ∃ n, wx = wr.drewN n)
            case first =>
              have paths : (nthS l k).lo < -1000 ∨ (¬ (nthS l k).lo < -1000 ∧ (nthS l k).hi < (nthS l k).lo) ∨ (¬ (nthS l k).lo < -1000 ∧ ¬ (nthS l k).hi < (nthS l k).lo ∧ 1000 < (nthS l k).hi) ∨
                (¬ (nthS l k).lo < -1000 ∧ ¬ (nthS l k).hi < (nthS l k).lo ∧ ¬ 1000 < (nthS l k).hi) := by omega
              rcases paths with h1 | ⟨h1, h2⟩ | ⟨h1, h2, h3⟩ | ⟨h1, h2, h3⟩
              · have d1 := decide_eq_true h1
                go_quiet (fail)
                go_wp2_with fail
                go_meet
                exact ⟨by simp [refB, *], _, by first | rfl | exact World.drewN_drewN _ _ _⟩
              · have d1 := decide_eq_false h1
                have d2 := decide_eq_true h2
                go_quiet (fail)
                go_wp2_with fail
                go_meet
                exact ⟨by simp [refB, *], _, by first | rfl | exact World.drewN_drewN _ _ _⟩
              · have d1 := decide_eq_false h1
                have d2 := decide_eq_false h2
                have d3 := decide_eq_true h3
                go_quiet (fail)
                go_wp2_with fail
                go_meet
                exact ⟨by simp [refB, *], _, by first | rfl | exact World.drewN_drewN _ _ _⟩
              · have d1 := decide_eq_false h1
                have d2 := decide_eq_false h2
                have d3 := decide_eq_false h3
                go_quiet (fail)
                go_wp2_with fail
                go_meet
                exact ⟨by simp [refB, *], _, by first | rfl | exact World.drewN_drewN _ _ _⟩
            case rest =>
              obtain ⟨rfl, n', rfl⟩ := hcut
              cases hrb : refB l k with
              | true =>
                have HB := Lib.hid (checkPair_bad l H0.out k hlt (refB_bad l k hrb)); clear hrb
                go_wp2_with fail
                go_ret
                exact ⟨ret_int HB.out.symm, by exact bel_of⟩
              | false =>
                have HK := Lib.hid (ref_ok l k hp0 HRA.out hrb); clear hrb
                go_wp2_with fail
                go_roundw
                case rel => exact ⟨k + 1, by omega, by go_num, by rw [prevSt_succ]; have := (okSt_at l k HK.out).1; omega, by exact bel_of, fun j hj => by
                  rcases Nat.lt_succ_iff_lt_or_eq.1 hj with h | rfl
                  · exact HA.out j h
                  · exact HK.out⟩
                case measure => simp [intOf]; omega
      · go_wp2
        go_ret
        exact ⟨ret_int (checkPair_ok l H0.out fun j hj => HA.out j (by omega)).symm, hbw⟩
end Go.Proofs.Ytbjmkmambmeifaa

namespace Go.Proofs.Ytbjmkmambmeifaa
open Go.RowKit

section
variable {P : Program} {ops : Array Oper} {Q : Exit → Act → World → Prop} {l m : Nat}

theorem wpOpsIn_of_wpOps (hq : ¬ LetsOut Q) (hd : ops.all (fun o => match o.op with | .defer _ => false | _ => true) = true) :
    ∀ (is : List Nat) (a : Act) (w : World), wpOps P ops Q is a w → wpOpsIn (Fence.wide.inRound l) m P ops Q is a w := by
  intro is
  induction is with
  | nil => intro a w h; exact h
  | cons i rest ih =>
    intro a w h
    simp only [wpOps, wpOpsIn] at h ⊢
    cases ho : ops[i]? with
    | none => simp only [ho] at h ⊢; exact ih _ _ h
    | some o =>
      simp only [ho] at h ⊢
      have hnd : ∀ c, o.op ≠ .defer c := by
        intro c hc
        have := Array.all_eq_true_iff_forall_mem.1 hd o (Array.mem_of_getElem? ho)
        simp [hc] at this
      by_cases hw : Region.wanted o (yielded ops a.tmps) = true
      · simp only [hw, if_true] at h ⊢
        rcases h with h | ⟨_, h⟩
        case inr => exact absurd h hq
        refine ⟨fun _ _ => trivial, ?_⟩
        rw [Oper.semAt_eq _ _ _ hnd]
        unfold Oper.wp at h
        generalize (execOp a.eval o).run P w = r at *
        cases r with
        | ok n w' =>
          cases n <;> simp only [Oper.upon, Oper.uponIn] at h ⊢ <;> first
            | exact ih _ _ h
            | exact h.elim
            | (refine ⟨(fun hh => by cases hh), CallsIn.inRound l (callsIn_wide.2 (Calls.mono h ?_))⟩
               intro e w'' he
               cases e <;> first | exact ih _ _ he | exact he)
            | (refine ⟨(fun hh => by cases hh), ?_⟩
               intro c cs _
               obtain ⟨v, w'', hr, hs⟩ := h c cs
               exact ⟨v, w'', ih _ _ hr, stepsIn_wide.2 hs⟩)
        | halt x w' => cases x <;> simp only [Oper.upon, Oper.uponIn] at h ⊢ <;> exact h
      · simp only [hw] at h ⊢
        exact ⟨fun _ _ => trivial, ih _ _ h⟩

/-- A region of a round that does not draw. -/
theorem round_region {id n : Nat} {a : Act} {w : World} {os : List Oper} (hq : ¬ LetsOut Q) (hd : os.toArray.all (fun o => match o.op with | .defer _ => false | _ => true) = true)
    (h : wpList P os.toArray Q os a w) : (Code.region id os.toArray false).wpIn (Fence.wide.inRound l) n P Q a w :=
  wpIn_region (wpOpsIn_of_wpOps hq hd _ _ _ (by
    rw [List.range_eq_range', ← Array.length_toList, wpOps_eq_wpList os.toArray.toList 0 (by simp)]; simpa using h))

variable {md : Region.Mode} {S : World → Prop} {E : List Nat}
def waitsT (md : Region.Mode) (ops : Array Oper) : Nat → Nat → Nat → Bool
  | 0, _, _ => false
  | f + 1, j, i => match ops[j]? with
    | some oj => oj.after.any fun e => Region.binds md e && (e.on == i || waitsT md ops f e.on i)
    | none => false
def waitsAll (md : Region.Mode) (ops : Array Oper) (E : List Nat) (i : Nat) : Bool := E.all fun e => waitsT md ops ops.size i e
theorem getD_both' {listed : Array Bool} {i : Nat} (h : listed.getD i false = true) : listed.getD i true = true := by
  rcases Nat.lt_or_ge i listed.size with h' | h'
  · simp [h'] at h ⊢; exact h
  · simp [Array.getElem?_eq_none h'] at h
/-- What is listed has what it waits for listed, too. -/
def Inv (md : Region.Mode) (ops : Array Oper) (listed : Array Bool) : Prop := ∀ (j : Nat) (oj : Oper), ops[j]? = some oj → listed.getD j true = true → ∀ e ∈ oj.after, Region.binds md e = true → listed.getD e.on true = true
theorem waitsT_listed {listed : Array Bool} (h : Inv md ops listed) {i : Nat} : ∀ (f j : Nat), (∀ oj, ops[j]? = some oj → ∀ e ∈ oj.after, Region.binds md e = true → listed.getD e.on true = true) → waitsT md ops f j i = true → listed.getD i true = true
  | 0, _, _, hw => by cases hw
  | f + 1, j, hj, hw => by
    unfold waitsT at hw
    split at hw
    · rename_i oj hoj
      obtain ⟨e, he, hb⟩ := Array.any_eq_true'.1 hw
      simp only [Bool.and_eq_true, Bool.or_eq_true, beq_iff_eq] at hb
      have h1 := hj oj hoj e he hb.1
      rcases hb.2 with rfl | h2
      · exact h1
      · exact waitsT_listed h f e.on (fun o ho e' he' hb' => h _ o ho h1 e' he' hb') h2
    · cases hw
theorem Inv.none (md : Region.Mode) (ops : Array Oper) : Inv md ops (Array.replicate ops.size false) := by
  intro j oj hoj hj
  have := (Array.getElem?_eq_some_iff.1 hoj).1
  simp [this] at hj
theorem Inv.set {listed : Array Bool} (h : Inv md ops listed) {i : Nat} (hi : i ∈ Region.ready md ops listed) : Inv md ops (listed.setIfInBounds i true) := by
  obtain ⟨hun, oi, hoi, hall⟩ := mem_ready.1 hi
  have up : ∀ k, listed.getD k true = true → (listed.setIfInBounds i true).getD k true = true := fun k hk => by
    by_cases hik : i = k
    · subst hik; rw [hk] at hun; cases hun
    · rw [getD_set_ne true hik]; exact hk
  intro j oj hoj hj e he hb
  by_cases hij : i = j
  · subst hij
    rw [hoi] at hoj; cases hoj
    refine up _ ?_
    have h1 := hall e he hb
    exact getD_both' h1
  · rw [getD_set_ne true hij] at hj
    exact up _ (h j oj hoj hj e he hb)

def wpAnyF (P : Program) (md : Region.Mode) (ops : Array Oper) (Q : Exit → Act → World → Prop) (S : World → Prop) (E : List Nat) : Nat → Array Bool → Act → World → Prop
  | 0, listed, a, w => Region.ready md ops listed = [] ∧ Q .normal a w
  | fuel + 1, listed, a, w =>
    (Region.ready md ops listed = [] → Q .normal a w) ∧
    ∀ i ∈ Region.ready md ops listed, wpOp P ops Q i (fun a' w' => (waitsAll md ops E i = false → S w') ∧ wpAnyF P md ops Q S E fuel (listed.setIfInBounds i true) a' w') a w

theorem wpAny_of_F : ∀ (fuel : Nat) (listed : Array Bool) (a : Act) (w : World), wpAnyF P md ops Q S E fuel listed a w → wpAny P md ops Q fuel listed a w
  | 0, _, _, _, h => h
  | fuel + 1, _, _, _, h => ⟨h.1, fun i hi => wpOp_mono (fun a' w' h' => wpAny_of_F fuel _ a' w' h'.2) (h.2 i hi)⟩

theorem wpAnyF_first {i : Nat} {oi : Oper} {v : Value} (hiE : i ∈ E) (hi : ops[i]? = some oi) (hsel : ∀ (j : Nat) (o : Oper) cs b, ops[j]? = some o → o.op ≠ .select cs b)
    (hQ : ∀ c a w, Q (.panic c) (a.put oi.dst v) w → Q (.panic c) a w) :
    ∀ (fuel : Nat) (listed : Array Bool) (a : Act) (w : World),
      (∀ j oj, ops[j]? = some oj → j ≠ i → listed.getD j true = false → (∀ e ∈ oj.after, Region.binds md e = true → e.on ≠ i) → oi.apart ops oj = true) →
      Inv md ops listed → i ∈ Region.ready md ops listed → YieldsIf P ops S oi v a → S w →
      wpAnyF P md ops Q S E fuel (listed.setIfInBounds i true) (a.put oi.dst v) w → wpAnyF P md ops Q S E (fuel + 1) listed a w := by
  intro fuel
  induction fuel with
  | zero =>
    intro listed a w _ _ hr hy hS H
    refine ⟨fun h => (by rw [h] at hr; cases hr), fun j hj => ?_⟩
    by_cases hji : j = i
    · subst hji; exact hy.wpOp hi hS ⟨fun _ => hS, H⟩
    · have := ready_mono hj hji
      rw [H.1] at this
      cases this
  | succ fuel ih =>
    intro listed a w hfree hinv hr hy hS H
    refine ⟨fun h => (by rw [h] at hr; cases hr), fun j hj => ?_⟩
    by_cases hji : j = i
    · subst hji; exact hy.wpOp hi hS ⟨fun _ => hS, H⟩
    · have h1 := H.2 j (ready_mono hj hji)
      obtain ⟨hjun, oj, hoj, hall⟩ := mem_ready.1 hj
      have hnot : ∀ e ∈ oj.after, Region.binds md e = true → e.on ≠ i := fun e he hb heq => by
        have h1 := hall e he hb
        have h0 := (mem_ready.1 hr).1
        rw [heq, getD_both h0] at h1
        cases h1
      have hflag : waitsAll md ops E j = false := by
        rw [← Bool.not_eq_true]
        intro hw
        have h5 := waitsT_listed hinv _ j (fun o ho e he hb => by
          rw [hoj] at ho; cases ho
          exact getD_both' (hall e he hb)) (List.all_eq_true.1 hw i hiE)
        rw [(mem_ready.1 hr).1] at h5; cases h5
      have h2 := wpOp_putIf hoj (hfree j oj hoj hji hjun hnot) (fun cs b => hsel i oi cs b hi) (fun cs b => hsel j oj cs b hoj) hQ hy h1
      have hfree' : ∀ k ok, ops[k]? = some ok → k ≠ i → (listed.setIfInBounds j true).getD k true = false →
          (∀ e ∈ ok.after, Region.binds md e = true → e.on ≠ i) → oi.apart ops ok = true := fun k ok hk hki hun hno => by
        refine hfree k ok hk hki ?_ hno
        by_cases hjk : j = k
        · subst hjk; exact hjun
        · rw [getD_set_ne true hjk] at hun; exact hun
      refine wpOp_mono (fun a' w' h3 => ⟨h3.2.1, ih (listed.setIfInBounds j true) a' w' hfree' (hinv.set hj) (ready_mono hr (Ne.symm hji)) h3.1 (h3.2.1 hflag) ?_⟩) h2
      rw [Array.setIfInBounds_comm _ _ hji]
      exact h3.2.2

/-- The reads, one after another. -/
def wpY (P : Program) (ops : Array Oper) (S : World → Prop) (L : Act → Prop) : List Oper → Act → Prop
  | [], a => L a
  | o :: r, a => ∃ v, YieldsIf P ops S o v a ∧ wpY P ops S L r (a.put o.dst v)
/-- The others, one after another; behind one that does not wait for all reads S is to be shown. -/
def wpF (P : Program) (md : Region.Mode) (ops : Array Oper) (Q : Exit → Act → World → Prop) (S : World → Prop) (E : List Nat) : Nat → List Oper → Act → World → Prop
  | _, [], a, w => Q .normal a w
  | k, o :: r, a, w => if Region.wanted o (yielded ops a.tmps) then o.wp P a w (fun a' w' => (waitsAll md ops E k = false → S w') ∧ wpF P md ops Q S E (k + 1) r a' w') Q
    else (waitsAll md ops E k = false → S w) ∧ wpF P md ops Q S E (k + 1) r (a.put o.dst undef) w

theorem wpF_step {k : Nat} {o : Oper} {r : List Oper} {a : Act} {w : World} (hg : o.guard = none)
    (h : ∀ K : Act → World → Prop, (∀ a' w', (waitsAll md ops E k = false → S w') → wpF P md ops Q S E (k + 1) r a' w' → K a' w') → o.wp P a w K Q) : wpF P md ops Q S E k (o :: r) a w := by
  unfold wpF
  rw [if_pos (by simp [Region.wanted, hg])]
  exact h _ fun a' w' h1 h2 => ⟨h1, h2⟩

theorem wpAnyF_of_seq : ∀ (os : List Oper) (k : Nat) (listed : Array Bool) (a : Act) (w : World), (∀ j, os[j]? = ops[k + j]?) →
    Region.seqB md ops os.length k listed = true → wpF P md ops Q S E k os a w → wpAnyF P md ops Q S E os.length listed a w
  | [], _, _, _, _, _, hB, h => ⟨by simpa [Region.seqB] using hB, h⟩
  | o :: os, k, listed, a, w, hl, hB, h => by
    have h0 : ops[k]? = some o := by simpa using (hl 0).symm
    simp only [List.length_cons, Region.seqB, Bool.and_eq_true, decide_eq_true_eq] at hB
    refine ⟨fun h1 => (by rw [hB.1] at h1; cases h1), fun i hi => ?_⟩
    rw [hB.1] at hi
    have hik : i = k := by simpa using hi
    subst hik
    have hnext : ∀ a' w', ((waitsAll md ops E i = false → S w') ∧ wpF P md ops Q S E (i + 1) os a' w') → ((waitsAll md ops E i = false → S w') ∧ wpAnyF P md ops Q S E os.length (listed.setIfInBounds i true) a' w') :=
      fun a' w' h' => ⟨h'.1, wpAnyF_of_seq os (i + 1) _ a' w' (fun j => by have := hl (j + 1); simpa [Nat.add_assoc, Nat.add_comm 1 j] using this) hB.2 h'.2⟩
    unfold wpF at h
    unfold wpOp
    simp only [h0]
    by_cases hw : Region.wanted o (yielded ops a.tmps) = true
    · simp only [hw, if_true] at h ⊢
      exact .inl (Oper.wp_mono hnext h)
    · simp only [hw] at h ⊢
      exact hnext _ _ h

theorem wpAnyF_lex {n g : Nat} {tail : List Oper} (hsel : Region.noSelect ops = true) (hE : ∀ k, k < n → k ∈ E) (hQ : ∀ c (a : Act) d (v : Value) w, Q (.panic c) (a.put d v) w → Q (.panic c) a w) (htl : tail.length = g) (hta : ∀ j, tail[j]? = ops[n + j]?) :
    ∀ (os : List Oper) (k : Nat) (listed : Array Bool) (a : Act) (w : World), (∀ j, j < os.length → os[j]? = ops[k + j]?) → k + os.length = n → S w → Inv md ops listed →
    Region.lexHead md ops g os.length k listed = true → wpY P ops S (fun a' => wpF P md ops Q S E n tail a' w) os a →
    wpAnyF P md ops Q S E (os.length + g) listed a w
  | [], k, listed, a, w, _, hk, _, _, hB, h => by
    have : k = n := by simpa using hk
    subst this
    rw [List.length_nil, Nat.zero_add, ← htl]
    exact wpAnyF_of_seq tail k listed a w hta (by rw [htl]; simpa [Region.lexHead] using hB) h
  | o :: os, k, listed, a, w, hl, hk, hS, hinv, hB, h => by
    have h0 : ops[k]? = some o := by simpa using (hl 0 (by simp)).symm
    simp only [List.length_cons, Region.lexHead, Bool.and_eq_true] at hB
    obtain ⟨⟨hr, hf⟩, hB'⟩ := hB
    have hkn : k < n := by simp only [List.length_cons] at hk; omega
    obtain ⟨v, hy, hK⟩ := h
    rw [List.length_cons, show os.length + 1 + g = (os.length + g) + 1 by omega]
    exact wpAnyF_first (hE k hkn) h0 (Region.noSelect_spec hsel) (fun c a w => hQ c a _ _ w) _ listed a w (Region.free_spec h0 hf) hinv (by simpa using hr) hy hS
      (wpAnyF_lex hsel hE hQ htl hta os (k + 1) _ _ w (fun j hj => by have := hl (j + 1) (by simp; omega); simpa [Nat.add_assoc, Nat.add_comm 1 j] using this) (by simp only [List.length_cons] at hk; omega) hS (hinv.set (by simpa using hr)) hB' hK)

/-- The Bool that the kernel reckons. -/
def earlyB (ops : Array Oper) (n : Nat) : Bool := Region.noSelect ops && decide (n ≤ ops.size) && Region.lexHead .any ops (ops.size - n) n 0 (Array.replicate ops.size false) && ops.all (fun o => match o.op with | .defer _ => false | _ => true)

/-- A region of a round that draws its order: its first n operations read; the others come one after another. -/
theorem round_early {id m : Nat} {a : Act} {w : World} {os : List Oper} (n : Nat) (S : World → Prop) (hm : P.follows .mixedOrders = true) (hB : earlyB os.toArray n = true) (hq : ¬ LetsOut Q)
    (hQ : ∀ c (a : Act) d (v : Value) w, Q (.panic c) (a.put d v) w → Q (.panic c) a w) (hS : S w.drew)
    (h : wpY P os.toArray S (fun a' => wpF P .any os.toArray Q S (List.range n) n (os.drop n) a' w.drew) (os.take n) a) : (Code.region id os.toArray true).wpIn (Fence.wide.inRound l) m P Q a w := by
  simp only [earlyB, Bool.and_eq_true, decide_eq_true_eq] at hB
  obtain ⟨⟨⟨hsel, hn⟩, hlex⟩, hd⟩ := hB
  have hn' : n ≤ os.length := by simpa using hn
  have htl : (os.take n).length = n := by simp; omega
  have H := wpAnyF_lex (md := .any) (E := List.range n) (tail := os.drop n) (g := os.toArray.size - n) hsel (fun k hk => List.mem_range.2 hk) hQ (by simp) (fun j => by simp [List.getElem?_drop]) (os.take n) 0 _ a w.drew
    (fun j hj => by
      have hj' : j < n := by rw [htl] at hj; exact hj
      simp [hj']) (by simpa using htl) hS (Inv.none _ _) (by rw [htl]; exact hlex) h
  refine wpIn_region_draw fun t => wpOpsIn_of_wpOps hq hd _ _ _ ?_
  simp only [Region.schedule, hm, Bool.true_or, if_true]
  rw [htl, show n + (os.toArray.size - n) = os.toArray.size by simp; omega] at H
  exact wpAny_sound _ t _ a _ (wpAny_of_F _ _ _ _ H)

/-- The like outside a round. -/
theorem plain_early {id : Nat} {a : Act} {w : World} {os : List Oper} (n : Nat) (S : World → Prop) (hm : P.follows .mixedOrders = true) (hB : earlyB os.toArray n = true)
    (hQ : ∀ c (a : Act) d (v : Value) w, Q (.panic c) (a.put d v) w → Q (.panic c) a w) (hS : S w.drew)
    (h : wpY P os.toArray S (fun a' => wpF P .any os.toArray Q S (List.range n) n (os.drop n) a' w.drew) (os.take n) a) : (Code.region id os.toArray true).wp P Q a w := by
  simp only [earlyB, Bool.and_eq_true, decide_eq_true_eq] at hB
  obtain ⟨⟨⟨hsel, hn⟩, hlex⟩, _⟩ := hB
  have hn' : n ≤ os.length := by simpa using hn
  have htl : (os.take n).length = n := by simp; omega
  have H := wpAnyF_lex (md := .any) (E := List.range n) (tail := os.drop n) (g := os.toArray.size - n) hsel (fun k hk => List.mem_range.2 hk) hQ (by simp) (fun j => by simp [List.getElem?_drop]) (os.take n) 0 _ a w.drew
    (fun j hj => by
      have hj' : j < n := by rw [htl] at hj; exact hj
      simp [hj']) (by simpa using htl) hS (Inv.none _ _) (by rw [htl]; exact hlex) h
  rw [htl, show n + (os.toArray.size - n) = os.toArray.size by simp; omega] at H
  exact wp_region_any hm (wpAny_of_F _ _ _ _ H)

/-- An operation that appends, its run being known. -/
theorem wp_append_run {o : Oper} {a : Act} {w w' : World} {K : Act → World → Prop} (s x : Operand) (t : TypeId) (v : Value)
    (ho : o.op = .call { callee := .builtin .append, args := #[s, x], argTypes := #[t, t] })
    (hrun : (Builtin.append_ #[t, t] o.type #[a.eval s, a.eval x]).run P w = .ok v w') (h : K (a.put o.dst v) w') : o.wp P a w K Q := by
  unfold Oper.wp execOp
  simp only [ho, resolve, invoke, builtin, Sem.run_bind, Sem.run_pure, Result.andThen_ok, List.map_toArray, List.map_cons, List.map_nil, hrun]
  exact h
end
end Go.Proofs.Ytbjmkmambmeifaa

namespace Go.Proofs.Ytbjmkmambmeifaa
open Go.RowKit
section
variable {P : Program} {ops : Array Oper} {Q : Exit → Act → World → Prop} {l m : Nat} {md : Region.Mode} {S : World → Prop} {E : List Nat}

def invB (md : Region.Mode) (ops : Array Oper) (listed : Array Bool) : Bool := (List.range ops.size).all fun j => !listed.getD j true || ((ops[j]?).map fun o => o.after.all fun e => !Region.binds md e || listed.getD e.on true).getD true
theorem inv_of {listed : Array Bool} (h : invB md ops listed = true) : Inv md ops listed := by
  intro j oj hoj hj e he hb
  have hlt := (Array.getElem?_eq_some_iff.1 hoj).1
  have h1 := List.all_eq_true.1 h j (List.mem_range.2 hlt)
  rw [hj, hoj] at h1
  simp only [Bool.not_true, Bool.false_or, Option.map_some, Option.getD_some] at h1
  have h2 := Array.all_eq_true_iff_forall_mem.1 h1 e he
  rw [hb] at h2
  simpa using h2

/-- Whether the read i may be taken ahead of all that may come. -/
def takeB (md : Region.Mode) (ops : Array Oper) (E : List Nat) (listed : Array Bool) (i : Nat) : Bool :=
  Region.noSelect ops && E.contains i && Region.free md ops listed i && invB md ops listed && (Region.ready md ops listed).contains i

theorem any_take (i : Nat) (v : Value) {oi : Oper} {fuel : Nat} {listed : Array Bool} {a : Act} {w : World} (hi : ops[i]? = some oi) (hB : takeB md ops E listed i = true)
    (hQ : ∀ c (a : Act) d (v : Value) w, Q (.panic c) (a.put d v) w → Q (.panic c) a w) (hy : YieldsIf P ops S oi v a) (hS : S w)
    (h : wpAnyF P md ops Q S E fuel (listed.setIfInBounds i true) (a.put oi.dst v) w) : wpAnyF P md ops Q S E (fuel + 1) listed a w := by
  simp only [takeB, Bool.and_eq_true] at hB
  obtain ⟨⟨⟨⟨h1, h2⟩, h3⟩, h4⟩, h5⟩ := hB
  exact wpAnyF_first (by simpa using h2) hi (Region.noSelect_spec h1) (fun c a w => hQ c a _ _ w) fuel listed a w (Region.free_spec hi h3) (inv_of h4) (by simpa using h5) hy hS h

theorem any_run1 {i : Nat} {o : Oper} {fuel : Nat} {listed : Array Bool} {a : Act} {w : World} (hr : Region.ready md ops listed = [i]) (hi : ops[i]? = some o) (hg : Region.wanted o (yielded ops a.tmps) = true)
    (h : ∀ K : Act → World → Prop, (∀ a' w', (waitsAll md ops E i = false → S w') → wpAnyF P md ops Q S E fuel (listed.setIfInBounds i true) a' w' → K a' w') → o.wp P a w K Q) : wpAnyF P md ops Q S E (fuel + 1) listed a w := by
  refine ⟨fun he => (by rw [hr] at he; cases he), fun j hj => ?_⟩
  rw [hr] at hj
  have : j = i := by simpa using hj
  subst this
  unfold wpOp
  simp only [hi, hg]
  exact .inl (h _ fun a' w' h1 h2 => ⟨h1, h2⟩)

theorem any_skip1 {i : Nat} {o : Oper} {fuel : Nat} {listed : Array Bool} {a : Act} {w : World} (hr : Region.ready md ops listed = [i]) (hi : ops[i]? = some o) (hg : Region.wanted o (yielded ops a.tmps) = false) (hS : S w)
    (h : wpAnyF P md ops Q S E fuel (listed.setIfInBounds i true) (a.put o.dst undef) w) : wpAnyF P md ops Q S E (fuel + 1) listed a w := by
  refine ⟨fun he => (by rw [hr] at he; cases he), fun j hj => ?_⟩
  rw [hr] at hj
  have : j = i := by simpa using hj
  subst this
  unfold wpOp
  simp only [hi, hg]
  exact ⟨fun _ => hS, h⟩

theorem any_run2 {i j : Nat} {o o' : Oper} {fuel : Nat} {listed : Array Bool} {a : Act} {w : World} (hr : Region.ready md ops listed = [i, j]) (hi : ops[i]? = some o) (hj : ops[j]? = some o')
    (hg : Region.wanted o (yielded ops a.tmps) = true) (hg' : Region.wanted o' (yielded ops a.tmps) = true)
    (h : ∀ K : Act → World → Prop, (∀ a' w', (waitsAll md ops E i = false → S w') → wpAnyF P md ops Q S E fuel (listed.setIfInBounds i true) a' w' → K a' w') → o.wp P a w K Q)
    (h' : ∀ K : Act → World → Prop, (∀ a' w', (waitsAll md ops E j = false → S w') → wpAnyF P md ops Q S E fuel (listed.setIfInBounds j true) a' w' → K a' w') → o'.wp P a w K Q) : wpAnyF P md ops Q S E (fuel + 1) listed a w := by
  refine ⟨fun he => (by rw [hr] at he; cases he), fun k hk => ?_⟩
  rw [hr] at hk
  have : k = i ∨ k = j := by simpa using hk
  rcases this with rfl | rfl
  · unfold wpOp
    simp only [hi, hg]
    exact .inl (h _ fun a' w' h1 h2 => ⟨h1, h2⟩)
  · unfold wpOp
    simp only [hj, hg']
    exact .inl (h' _ fun a' w' h1 h2 => ⟨h1, h2⟩)

theorem any_done {listed : Array Bool} {a : Act} {w : World} (hr : Region.ready md ops listed = []) (h : Q .normal a w) : wpAnyF P md ops Q S E 0 listed a w := ⟨hr, h⟩

theorem plain_any {id : Nat} {a : Act} {w : World} {os : List Oper} (E : List Nat) (S : World → Prop) (hm : P.follows .mixedOrders = true)
    (h : wpAnyF P .any os.toArray Q S E os.length (Array.replicate os.length false) a w.drew) : (Code.region id os.toArray true).wp P Q a w :=
  wp_region_any hm (by have := wpAny_of_F _ _ _ _ h; simpa using this)

theorem round_any {id : Nat} {a : Act} {w : World} {os : List Oper} (E : List Nat) (S : World → Prop) (hm : P.follows .mixedOrders = true) (hd : os.toArray.all (fun o => match o.op with | .defer _ => false | _ => true) = true) (hq : ¬ LetsOut Q)
    (h : wpAnyF P .any os.toArray Q S E os.length (Array.replicate os.length false) a w.drew) : (Code.region id os.toArray true).wpIn (Fence.wide.inRound l) m P Q a w := by
  refine wpIn_region_draw fun t => wpOpsIn_of_wpOps hq hd _ _ _ ?_
  simp only [Region.schedule, hm, Bool.true_or, if_true]
  have h' := wpAny_of_F _ _ _ _ h
  exact wpAny_sound _ t _ a _ (by simpa using h')

theorem BK.put {W : World} {g D : Nat} {cs : Array Value} {t : TypeId} (h : BK W g cs t) (hne : g ≠ D) (o : Obj) : BK (W.putObj D o) g cs t := (World.putObj_heap_other hne).trans h
theorem below_put {n D : Nat} {w W : World} (h : Below n w W) (hn : n ≤ D) (o : Obj) : Below n w (W.putObj D o) :=
  h.trans ⟨rfl, rfl, rfl, by simp, fun k hk => World.putObj_heap_other (by omega)⟩
theorem leave2_bk {fn : Func} {R : Ending → World → Prop} {tmps : Array Value} {w W : World} {D D' n g : Nat} {cs : Array Value} {t : TypeId} {v : Value} (hne : D ≠ D') (hK : W.heap[D]? = some (.deferred (some []))) (hK' : W.heap[D']? = some (.deferred (some [])))
    (hb : BK W g cs t) (h1 : g ≠ D) (h2 : g ≠ D') (hB : Below n w W) (hn : n ≤ D) (hn' : n ≤ D') (hv : ∀ W', BK W' g cs t → (results fn tmps).run P W' = .ok v W') (hR : ∀ W', Below n w W' → R (.returned v) W') :
    bodyPostM Fence.wide 100 P fn R .ret { tmps, defers := [{ target := .collected D, args := #[] }, { target := .collected D', args := #[] }] } W :=
  leave2 hne hK hK' (hv _ ((hb.put h1 _).put h2 _)) (hR _ (below_put (below_put hB hn _) hn' _))
theorem leave1_bk {fn : Func} {R : Ending → World → Prop} {tmps : Array Value} {w W : World} {D n g : Nat} {cs : Array Value} {t : TypeId} {v : Value} (hK : W.heap[D]? = some (.deferred (some [])))
    (hb : BK W g cs t) (h1 : g ≠ D) (hB : Below n w W) (hn : n ≤ D) (hv : ∀ W', BK W' g cs t → (results fn tmps).run P W' = .ok v W') (hR : ∀ W', Below n w W' → R (.returned v) W') :
    bodyPostM Fence.wide 100 P fn R .ret { tmps, defers := [{ target := .collected D, args := #[] }] } W :=
  leave1 hK (hv _ (hb.put h1 _)) (hR _ (below_put hB hn _))
end
end Go.Proofs.Ytbjmkmambmeifaa

namespace Go.Proofs.Ytbjmkmambmeifaa
open Go.RowKit
section
variable {P : Program} {ops : Array Oper} {Q : Exit → Act → World → Prop} {l m : Nat} {md : Region.Mode} {S : World → Prop} {E : List Nat}

def lexOnly (md : Region.Mode) (ops : Array Oper) : Nat → Nat → Array Bool → Bool
  | 0, _, _ => true
  | f + 1, k, listed => (Region.ready md ops listed).contains k && Region.free md ops listed k && lexOnly md ops f (k + 1) (listed.setIfInBounds k true)
def setN : Nat → Nat → Array Bool → Array Bool
  | 0, _, l => l
  | f + 1, k, l => setN f (k + 1) (l.setIfInBounds k true)

theorem any_lex {g : Nat} {w : World} (hsel : Region.noSelect ops = true) (hQ : ∀ c (a : Act) d (v : Value) w, Q (.panic c) (a.put d v) w → Q (.panic c) a w) (hS : S w) :
    ∀ (os : List Oper) (k : Nat) (listed : Array Bool) (a : Act), (∀ j, j < os.length → os[j]? = ops[k + j]?) → (∀ j, k ≤ j → j < k + os.length → j ∈ E) → Inv md ops listed →
    lexOnly md ops os.length k listed = true → wpY P ops S (fun a' => wpAnyF P md ops Q S E g (setN os.length k listed) a' w) os a →
    wpAnyF P md ops Q S E (os.length + g) listed a w
  | [], k, listed, a, _, _, _, _, h => by
    have h' : wpAnyF P md ops Q S E g listed a w := h
    simpa using h'
  | o :: os, k, listed, a, hl, hE, hinv, hB, h => by
    have h0 : ops[k]? = some o := by simpa using (hl 0 (by simp)).symm
    simp only [List.length_cons, lexOnly, Bool.and_eq_true] at hB
    obtain ⟨⟨hr, hf⟩, hB'⟩ := hB
    obtain ⟨v, hy, hK⟩ := h
    rw [List.length_cons, show os.length + 1 + g = (os.length + g) + 1 by omega]
    have hr' : k ∈ Region.ready md ops listed := by simpa using hr
    exact wpAnyF_first (hE k (Nat.le_refl _) (by simp)) h0 (Region.noSelect_spec hsel) (fun c a w => hQ c a _ _ w) _ listed a w (Region.free_spec h0 hf) hinv hr' hy hS
      (any_lex hsel hQ hS os (k + 1) _ _ (fun j hj => by have := hl (j + 1) (by simp; omega); simpa [Nat.add_assoc, Nat.add_comm 1 j] using this) (fun j h1 h2 => hE j (by omega) (by simp; omega)) (hinv.set hr') hB' hK)

def lexAB (ops : Array Oper) (n : Nat) : Bool := Region.noSelect ops && decide (n ≤ ops.size) && lexOnly .any ops n 0 (Array.replicate ops.size false)

theorem plain_lex {id : Nat} {a : Act} {w : World} {os : List Oper} (n g : Nat) (S : World → Prop) (hm : P.follows .mixedOrders = true) (hB : lexAB os.toArray n = true) (hg : os.length = n + g) (hS : S w.drew)
    (h : wpY P os.toArray S (fun a' => wpAnyF P .any os.toArray (NoPanic Q) S (List.range n) g (setN n 0 (Array.replicate os.length false)) a' w.drew) (os.take n) a) : (Code.region id os.toArray true).wp P Q a w := by
  simp only [lexAB, Bool.and_eq_true, decide_eq_true_eq] at hB
  obtain ⟨⟨hsel, hn⟩, hlex⟩ := hB
  have hn' : n ≤ os.length := by simpa using hn
  have htl : (os.take n).length = n := by simp; omega
  refine wp_region_noPanic (plain_any (List.range n) S hm ?_)
  have H := any_lex (md := .any) (E := List.range n) (g := g) (P := P) (Q := NoPanic Q) (w := w.drew) hsel (fun c a d v w hx => hx) hS (os.take n) 0 (Array.replicate os.length false) a
    (fun j hj => by
      have hj' : j < n := by rw [htl] at hj; exact hj
      simp [hj']) (fun j _ h2 => List.mem_range.2 (by omega)) (by have := Inv.none .any os.toArray; simpa using this) (by rw [htl]; simpa using hlex) (by rw [htl]; exact h)
  rw [htl, ← hg] at H
  exact H

/-- The like, the reads being of what lay when the region began. -/
theorem plain_read {id : Nat} {a : Act} {w : World} {os : List Oper} (n g : Nat) (hm : P.follows .mixedOrders = true) (hB : lexAB os.toArray n = true) (hg : os.length = n + g)
    (h : wpY P os.toArray (Below w.heap.size w) (fun a' => wpAnyF P .any os.toArray (NoPanic Q) (Below w.heap.size w) (List.range n) g (setN n 0 (Array.replicate os.length false)) a' w.drew) (os.take n) a) : (Code.region id os.toArray true).wp P Q a w :=
  plain_lex n g _ hm hB hg (Below.refl _ _).drew h
end
theorem mixed : Try.prog.follows .mixedOrders = true := by kernel_rfl
end Go.Proofs.Ytbjmkmambmeifaa
