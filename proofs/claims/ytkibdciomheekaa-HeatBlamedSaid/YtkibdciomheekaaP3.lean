/- Lists in a temporary that grow, and that are cut short. Appends: of an element in a block that is known; of a whole slice to an empty one; to a slice that is cut at its length. Plain: the errors of a works, of a recipe, of what was measured. Plain: rows of hardnesses that can be had, by the kinks of ways. Rows of hardnesses in memory: one, or several, in a block. -/
import Derived.Test.YtkibdciomheekaaP2
import Derived.ArgAppend
import Derived.Test.YtkibdciomheekaaP1
import Derived.Deep.MidRow
import Derived.Deep.WholeRow
set_option linter.all false
set_option linter.unnecessarySimpa false
set_option linter.unusedSimpArgs false
set_option linter.unusedVariables false
set_option linter.unusedSectionVars false

namespace Go.Proofs.Ytkibdciomheekaa
open Go.RowKit Hp

/-- What is appended (the element lies in the block made last), the list lying in a temporary. -/
theorem app_t {P : Program} {t e size bytes : Nat} {z : Value} (hinf : (P.info? e).map (fun i => (i.zero, i.size, i.bytes)) = some (some z, size, bytes)) (ht : P.underlying t = some (.slice e)) (hzs : z.cells.size = size) (hsz : 0 < size) (hb1 : bytes ≤ 1000)
    {base n : Nat} {w0 w1 : World} {xs news : List Value} {v : Value} (hown : w1.ownsRow base e size v n xs) (hl : news.length = size) (h1 : ∀ u ∈ news, u.oneCell' = true) (hn : n ≤ 100000) (hbase : base ≤ w1.heap.size) (hbw : Below base w0 w1) (ty tn : Nat) (B : Nat) (hB : w1.heap.size = B) :
    ∃ g' cap' w2, (Builtin.append_ #[t, t] ty #[v, .slice (some ⟨B, 0, none⟩) 1 1]).run P (w1.alloc (.cells news.toArray tn)) = .ok (.slice (some ⟨g', 0, none⟩) (n + 1) cap') w2 ∧
      w2.ownsRow base e size (.slice (some ⟨g', 0, none⟩) (n + 1) cap') (n + 1) (xs ++ news) ∧ Below base w0 w2 ∧ w1.heap.size ≤ w2.heap.size ∧ (∀ k cs t, BK w1 k cs t → t ≠ e → BK w2 k cs t) := by
  subst hB
  obtain ⟨i0, hi0, hz0, hz1, hz2⟩ := info_parts hinf
  obtain ⟨g', cap', w2, hrun, hown', hgr, hg'⟩ := app1 (P := P) t ty e i0 z size bytes ht hi0 hz0 hz1 hz2 hzs hsz hb1 base (w1.alloc (.cells news.toArray tn)) v n xs (hown.alloc _) w1.heap.size news tn (BK.new _ _ _) hl h1 hn (by simp; omega)
  have hs2 := hgr.size
  simp at hs2
  refine ⟨g', cap', w2, hrun, hown', ?_, by omega, ?_⟩
  · exact Below.grown (hbw.alloc hbase _) hgr (by simp; omega) fun k hk => (hown.lt k hk).1
  · intro k cs t hk hte
    refine (hk.alloc _).grown hgr ?_
    intro hq
    obtain ⟨c, hc⟩ := own_block hown hq.symm
    unfold BK at hk
    rw [hk] at hc; injection hc with hc; injection hc with _ hc; exact hte hc

theorem i64_info : (Try.prog.info? 2).map (fun i => (i.zero, i.size, i.bytes)) = some (some (.int .i64 0), 1, 8) := by kernel_rfl
theorem i64_slice : Try.prog.underlying 43 = some (.slice 2) := by kernel_rfl
theorem int_info : (Try.prog.info? 3).map (fun i => (i.zero, i.size, i.bytes)) = some (some (.int .i64 0), 1, 8) := by kernel_rfl
theorem int_slice : Try.prog.underlying 40 = some (.slice 3) := by kernel_rfl
theorem rg_info : (Try.prog.info? 33).map (fun i => (i.zero, i.size, i.bytes)) = some (some (.agg #[.int .i64 0, .int .i64 0]), 2, 16) := by kernel_rfl
theorem rg_slice : Try.prog.underlying 22 = some (.slice 33) := by kernel_rfl
theorem wy_info : (Try.prog.info? 28).map (fun i => (i.zero, i.size, i.bytes)) = some (some (.agg #[.slice none 0 0]), 1, 24) := by kernel_rfl
theorem wy_slice : Try.prog.underlying 86 = some (.slice 28) := by kernel_rfl

theorem ofI_app (l : List Int) (x : Int) : ofI l ++ [.int .i64 x] = ofI (l ++ [x]) := by simp [ofI]
theorem ofI_length (l : List Int) : (ofI l).length = l.length := by simp [ofI]

/-- A list of numbers (of type int, int64), of ratios, of stations, that grows. -/
def OwnI (T : Nat) (W : World) (base : Nat) (v : Value) (l : List Int) : Prop := W.ownsRow base T 1 v l.length (ofI l)
def OwnR (W : World) (base : Nat) (v : Value) (l : List Rg) : Prop := W.ownsRow base 33 2 v l.length (ofG encR l)
/-- A list of ways that grows: each of them reads below B. -/
def OwnW (W : World) (B base : Nat) (v : Value) (l : Stp) : Prop := ∃ us : List Value, us.length = l.length ∧ W.ownsRow base 28 1 v l.length us ∧ ∀ (k : Nat) (x : Wy), l[k]? = some x → ∃ u, us[k]? = some u ∧ RK W B u x
theorem OwnI.nil (T : Nat) (W : World) (base : Nat) : OwnI T W base (.slice none 0 0) [] := ⟨by simp [ofI], .inl ⟨rfl, rfl⟩⟩
theorem own_below {W W' : World} {base e sz n : Nat} {v : Value} {cs : List Value} (h : W.ownsRow base e sz v n cs) (hb : Below W.heap.size W W') : W'.ownsRow base e sz v n cs := (Adm.below (B := 0) hb).own h
theorem OwnI.below {T : Nat} {W W' : World} {base : Nat} {v : Value} {l : List Int} (h : OwnI T W base v l) (hb : Below W.heap.size W W') : OwnI T W' base v l := own_below h hb
theorem OwnI.ri {T : Nat} {W : World} {base : Nat} {v : Value} {l : List Int} (h : OwnI T W base v l) : RI W W.heap.size v l := RS.of_own h

theorem app_int {base : Nat} {w0 w1 : World} {l : List Int} {v : Value} (hown : OwnI 3 w1 base v l) (x : Int) (hn : l.length ≤ 100000) (hbase : base ≤ w1.heap.size) (hbw : Below base w0 w1) (B : Nat) (hB : w1.heap.size = B) :
    ∃ v' w2, (Builtin.append_ #[40, 40] 40 #[v, .slice (some ⟨B, 0, none⟩) 1 1]).run Try.prog (w1.alloc (.cells #[.int .i64 x] 3)) = .ok v' w2 ∧
      OwnI 3 w2 base v' (l ++ [x]) ∧ Below base w0 w2 ∧ w1.heap.size ≤ w2.heap.size ∧ (∀ k cs t, BK w1 k cs t → t ≠ 3 → BK w2 k cs t) := by
  obtain ⟨g', cap', w2, h1, h2, h3, h4, h5⟩ := app_t int_info int_slice rfl (by decide) (by decide) hown (news := [.int .i64 x]) rfl (by intro u hu; simp at hu; subst hu; rfl) hn hbase hbw 40 3 B hB
  exact ⟨_, w2, h1, by rw [ofI_app] at h2; unfold OwnI; simpa using h2, h3, h4, h5⟩
theorem app_i64 {base : Nat} {w0 w1 : World} {l : List Int} {v : Value} (hown : OwnI 2 w1 base v l) (x : Int) (hn : l.length ≤ 100000) (hbase : base ≤ w1.heap.size) (hbw : Below base w0 w1) (B : Nat) (hB : w1.heap.size = B) :
    ∃ v' w2, (Builtin.append_ #[43, 43] 43 #[v, .slice (some ⟨B, 0, none⟩) 1 1]).run Try.prog (w1.alloc (.cells #[.int .i64 x] 2)) = .ok v' w2 ∧
      OwnI 2 w2 base v' (l ++ [x]) ∧ Below base w0 w2 ∧ w1.heap.size ≤ w2.heap.size ∧ (∀ k cs t, BK w1 k cs t → t ≠ 2 → BK w2 k cs t) := by
  obtain ⟨g', cap', w2, h1, h2, h3, h4, h5⟩ := app_t i64_info i64_slice rfl (by decide) (by decide) hown (news := [.int .i64 x]) rfl (by intro u hu; simp at hu; subst hu; rfl) hn hbase hbw 43 2 B hB
  exact ⟨_, w2, h1, by rw [ofI_app] at h2; unfold OwnI; simpa using h2, h3, h4, h5⟩
theorem OwnR.nil (W : World) (base : Nat) : OwnR W base (.slice none 0 0) [] := ⟨by simp [ofG], .inl ⟨rfl, rfl⟩⟩
theorem OwnR.below {W W' : World} {base : Nat} {v : Value} {l : List Rg} (h : OwnR W base v l) (hb : Below W.heap.size W W') : OwnR W' base v l := own_below h hb
theorem OwnR.ri {W : World} {base : Nat} {v : Value} {l : List Rg} (h : OwnR W base v l) : RR W W.heap.size v l := RS.of_own h
theorem OwnW.nil (W : World) (B base : Nat) : OwnW W B base (.slice none 0 0) [] := ⟨[], rfl, ⟨by simp, .inl ⟨rfl, rfl⟩⟩, fun k x hx => by simp at hx⟩
theorem OwnW.below {W W' : World} {B base : Nat} {v : Value} {l : Stp} (h : OwnW W B base v l) (hB : B ≤ W.heap.size) (hb : Below W.heap.size W W') : OwnW W' B base v l := by
  obtain ⟨us, h1, h2, h3⟩ := h
  refine ⟨us, h1, own_below h2 hb, fun k x hx => ?_⟩
  obtain ⟨u, h4, h5⟩ := h3 k x hx
  exact ⟨u, h4, RK.below h5 (hb.mono hB)⟩
theorem OwnW.more {W : World} {B B' base : Nat} {v : Value} {l : Stp} (h : OwnW W B base v l) (hB : B ≤ B') : OwnW W B' base v l := by
  obtain ⟨us, h1, h2, h3⟩ := h
  refine ⟨us, h1, h2, fun k x hx => ?_⟩
  obtain ⟨u, h4, h5⟩ := h3 k x hx
  exact ⟨u, h4, RK.more h5 hB⟩
theorem OwnW.rw_ {W : World} {B base : Nat} {v : Value} {l : Stp} (h : OwnW W B base v l) (hB : B ≤ W.heap.size) : RW W W.heap.size v l := by
  obtain ⟨us, h1, h2, h3⟩ := h
  obtain ⟨A, cap, b, off, hv, hl, hA, hc⟩ := RS.of_own h2
  refine ⟨A, cap, b, off, hv, hl.2, hA, fun k x hx => ?_⟩
  obtain ⟨u, h4, h5⟩ := h3 k x hx
  exact ⟨u, by rw [hc k (by rw [h1]; exact (List.getElem?_eq_some_iff.1 hx).1)]; exact h4, RK.more h5 hB⟩
end Go.Proofs.Ytkibdciomheekaa

set_option linter.all false
namespace Go.Proofs.Ytkibdciomheekaa
open Go.RowKit Hp

theorem own_keep {W W' : World} {base e e' sz n : Nat} {v : Value} {xs : List Value} (h : W.ownsRow base e sz v n xs) (hk : ∀ k cs t, BK W k cs t → t ≠ e' → BK W' k cs t) (hne : e ≠ e') : W'.ownsRow base e sz v n xs := by
  obtain ⟨hl, h2⟩ := h
  refine ⟨hl, ?_⟩
  rcases h2 with h2 | ⟨g, cap, cur, h3, h4, h5, h6⟩
  · exact .inl h2
  · exact .inr ⟨g, cap, cur, h3, h4, hk _ _ _ h5 hne, h6⟩
/-- What is appended, the element lying in a block that is known. -/
theorem app_b {P : Program} {t e size bytes : Nat} {z : Value} (hinf : (P.info? e).map (fun i => (i.zero, i.size, i.bytes)) = some (some z, size, bytes)) (ht : P.underlying t = some (.slice e)) (hzs : z.cells.size = size) (hsz : 0 < size) (hb1 : bytes ≤ 1000)
    {base n : Nat} {W : World} {xs news : List Value} {v : Value} (hown : W.ownsRow base e size v n xs) {g tn : Nat} (hg : BK W g news.toArray tn) (hl : news.length = size) (h1 : ∀ u ∈ news, u.oneCell' = true) (hn : n ≤ 100000) (hbase : base ≤ W.heap.size) (ty : Nat) :
    ∃ v' w2, (Builtin.append_ #[t, t] ty #[v, .slice (some ⟨g, 0, none⟩) 1 1]).run P W = .ok v' w2 ∧ w2.ownsRow base e size v' (n + 1) (xs ++ news) ∧ (∀ w0, Below base w0 W → Below base w0 w2) ∧ W.heap.size ≤ w2.heap.size ∧ (∀ k cs t, BK W k cs t → t ≠ e → BK w2 k cs t) := by
  obtain ⟨i0, hi0, hz0, hz1, hz2⟩ := info_parts hinf
  obtain ⟨g', cap', w2, hrun, hown', hgr, _⟩ := app1 (P := P) t ty e i0 z size bytes ht hi0 hz0 hz1 hz2 hzs hsz hb1 base W v n xs hown g news tn hg hl h1 hn hbase
  refine ⟨_, w2, hrun, hown', fun w0 hbw => Below.grown hbw hgr hbase fun k hk => (hown.lt k hk).1, hgr.size, ?_⟩
  intro k cs t hk hte
  refine hk.grown hgr ?_
  intro hq
  obtain ⟨c, hc⟩ := own_block hown hq.symm
  unfold BK at hk
  rw [hk] at hc; injection hc with hc; injection hc with _ hc; exact hte hc
theorem app_b_i {T TS : Nat} (hinf : (Try.prog.info? T).map (fun i => (i.zero, i.size, i.bytes)) = some (some (.int .i64 0), 1, 8)) (ht : Try.prog.underlying TS = some (.slice T)) {W : World} {base g tn : Nat} {v : Value} {l : List Int} {x : Int} (h : OwnI T W base v l) (hg : BK W g #[.int .i64 x] tn) (hn : l.length ≤ 100000) (hbase : base ≤ W.heap.size) :
    ∃ v' w2, (Builtin.append_ #[TS, TS] TS #[v, .slice (some ⟨g, 0, none⟩) 1 1]).run Try.prog W = .ok v' w2 ∧ OwnI T w2 base v' (l ++ [x]) ∧ (∀ w0, Below base w0 W → Below base w0 w2) ∧ W.heap.size ≤ w2.heap.size ∧ (∀ k cs t, BK W k cs t → t ≠ T → BK w2 k cs t) := by
  obtain ⟨v', w2, h1, h2, h3⟩ := app_b (news := [.int .i64 x]) hinf ht rfl (by decide) (by decide) h hg rfl (by simp [Value.oneCell']) hn hbase TS
  refine ⟨v', w2, h1, ?_, h3⟩
  unfold OwnI
  rw [← ofI_app, List.length_append]
  exact h2
theorem app_b_rg {W : World} {base g tn : Nat} {v : Value} {l : List Rg} {x : Rg} (h : OwnR W base v l) (hg : BK W g #[.int .i64 x.lo, .int .i64 x.hi] tn) (hn : l.length ≤ 100000) (hbase : base ≤ W.heap.size) :
    ∃ v' w2, (Builtin.append_ #[22, 22] 22 #[v, .slice (some ⟨g, 0, none⟩) 1 1]).run Try.prog W = .ok v' w2 ∧ OwnR w2 base v' (l ++ [x]) ∧ (∀ w0, Below base w0 W → Below base w0 w2) ∧ W.heap.size ≤ w2.heap.size ∧ (∀ k cs t, BK W k cs t → t ≠ 33 → BK w2 k cs t) := by
  obtain ⟨v', w2, h1, h2, h3⟩ := app_b (news := encR x) rg_info rg_slice rfl (by decide) (by decide) h hg rfl (by intro u hu; simp [encR] at hu; rcases hu with rfl | rfl <;> rfl) hn hbase 22
  refine ⟨v', w2, h1, ?_, h3⟩
  unfold OwnR
  rw [← ofG_app, List.length_append]
  exact h2
/-- A list that came in is appended to an empty one in a block. -/
theorem app_src {P : Program} {t e size bytes : Nat} {z : Value} (hinf : (P.info? e).map (fun i => (i.zero, i.size, i.bytes)) = some (some z, size, bytes)) (ht : P.underlying t = some (.slice e)) (hzs : z.cells.size = size) (hsz : 0 < size) (hb1 : bytes ≤ 1000)
    {base B m g : Nat} {W : World} {news : List Value} {src : Value} (hg : BK W g #[] e) (hbg : base ≤ g) (hs : RS W B size src m news) (h1 : ∀ u ∈ news, u.oneCell' = true) (hm : m ≤ 100000) (hbase : base ≤ W.heap.size) (ty : Nat) :
    ∃ v' w2, (Builtin.append_ #[t, t] ty #[.slice (some ⟨g, 0, none⟩) 0 0, src]).run P W = .ok v' w2 ∧ w2.ownsRow base e size v' m news ∧ (∀ w0, Below base w0 W → Below base w0 w2) ∧ W.heap.size ≤ w2.heap.size ∧ (∀ k cs t, BK W k cs t → 0 < cs.size → BK w2 k cs t) := by
  obtain ⟨i0, hi0, hz0, hz1, hz2⟩ := info_parts hinf
  have hown : W.ownsRow base e size (.slice (some ⟨g, 0, none⟩) 0 0) 0 [] := ⟨by simp, .inr ⟨g, 0, #[], rfl, hbg, hg, Nat.le_refl _, by unfold maxLen; omega, by simp, by simp⟩⟩
  have hne : ∀ (k : Nat) (cs : Array Value) (t' : TypeId), BK W k cs t' → 0 < cs.size → some k ≠ (Value.slice (some ⟨g, 0, none⟩) 0 0).ownBlock := by
    intro k cs t' hk hc hq
    have : k = g := by simpa [Value.ownBlock] using hq
    subst this
    unfold BK at hk hg
    rw [hg] at hk
    injection hk with hk
    injection hk with hk _
    subst hk
    simp at hc
  obtain ⟨A, c, b, off, rfl, hl, hA, hc⟩ := hs
  rcases Nat.eq_zero_or_pos m with h0 | h0
  · subst h0
    have hn : news = [] := List.eq_nil_of_length_eq_zero (by simpa using hl.1)
    subst hn
    cases A with
    | none =>
      refine ⟨.slice (some ⟨g, 0, none⟩) 0 0, W, ?_, hown, fun _ h => h, Nat.le_refl _, fun _ _ _ h _ => h⟩
      simp [Builtin.append_, run_underlying ht, sizeOf, typeInfo, hi0, Builtin.lenOf, Builtin.firstCells, storeCells]
    | some ad =>
      obtain ⟨v', w2, hrun, hown', hgr, _, _⟩ := run_append_own_at (P := P) (w := W) base t ty e i0 z size bytes ht hi0 hz0 hz1 hz2 hzs hsz _ 0 [] hown ad 0 c [] (by simp) (fun j u hu => by simp at hu) h1 (by unfold maxLen; omega) (by omega) hbase
      exact ⟨v', w2, hrun, by simpa using hown', fun w0 hbw => Below.grown hbw hgr hbase fun k hk => (hown.lt k hk).1, hgr.size, fun k cs t' hk hcs => hk.grown hgr (hne k cs t' hk hcs)⟩
  · obtain ⟨rfl, hb⟩ := hA (by omega)
    obtain ⟨v', w2, hrun, hown', hgr, _, _⟩ := run_append_own_at (P := P) (w := W) base t ty e i0 z size bytes ht hi0 hz0 hz1 hz2 hzs hsz _ 0 [] hown ⟨b, off, none⟩ m c news hl.1 (fun j u hu => by
      have hj : j < news.length := (List.getElem?_eq_some_iff.1 hu).1
      have e : (⟨b, off, none⟩ : Addr).add j = ⟨b, off + j, none⟩ := by unfold Addr.add; split <;> simp_all
      rw [e, hc j hj]; exact hu) h1 (by unfold maxLen; omega) (by
        have : (0 + m) * bytes ≤ 100000 * 1000 := Nat.mul_le_mul (by omega) hb1
        omega) hbase
    exact ⟨v', w2, hrun, by simpa using hown', fun w0 hbw => Below.grown hbw hgr hbase fun k hk => (hown.lt k hk).1, hgr.size, fun k cs t' hk hcs => hk.grown hgr (hne k cs t' hk hcs)⟩
theorem own_more {W : World} {base base' e sz n : Nat} {v : Value} {xs : List Value} (h : W.ownsRow base e sz v n xs) (hb : base' ≤ base) : W.ownsRow base' e sz v n xs := by
  obtain ⟨hl, h2⟩ := h
  refine ⟨hl, ?_⟩
  rcases h2 with h2 | ⟨g, cap, cur, h3, h4, h5⟩
  · exact .inl h2
  · exact .inr ⟨g, cap, cur, h3, Nat.le_trans hb h4, h5⟩
theorem own_slice {W : World} {base e sz n : Nat} {v : Value} {xs : List Value} (h : W.ownsRow base e sz v n xs) : ∃ A c, v = .slice A n c := by
  rcases h.2 with ⟨rfl, rfl⟩ | ⟨g, cap, cur, rfl, _⟩
  · exact ⟨_, _, rfl⟩
  · exact ⟨_, _, rfl⟩

/-- What is appended to a slice that is cut at its length: a new row. -/
theorem app_full {P : Program} {t e size bytes : Nat} {z : Value} (hinf : (P.info? e).map (fun i => (i.zero, i.size, i.bytes)) = some (some z, size, bytes)) (ht : P.underlying t = some (.slice e)) (hzs : z.cells.size = size) (hsz : 0 < size) (hb1 : bytes ≤ 1000)
    {base n : Nat} {W : World} {xs news : List Value} {v : Value} (hown : W.ownsRow base e size v n xs) {g tn : Nat} (hg : BK W g news.toArray tn) (hl : news.length = size) (h1 : ∀ u ∈ news, u.oneCell' = true) (hn : n ≤ 100000) (hbase : base ≤ W.heap.size) (ty : Nat) :
    ∃ A c, v = .slice A n c ∧ n ≤ c ∧ (A = none → c = 0) ∧ ∃ v' w2, (Builtin.append_ #[t, t] ty #[.slice A n n, .slice (some ⟨g, 0, none⟩) 1 1]).run P W = .ok v' w2 ∧ w2.ownsRow base e size v' (n + 1) (xs ++ news) ∧ (∀ w0, Below base w0 W → Below base w0 w2) ∧ Below W.heap.size W w2 := by
  obtain ⟨i0, hi0, hz0, hz1, hz2⟩ := info_parts hinf
  have hb2 : (n + 1) * bytes ≤ 100001 * 1000 := Nat.mul_le_mul (by omega) hb1
  rcases hown.2 with ⟨rfl, rfl⟩ | ⟨g1, cap, cur, rfl, hbg, hh, hc, hm, hs, htk⟩
  · obtain ⟨g', cap', w2, hrun, hown', hgr, _⟩ := app1 (P := P) t ty e i0 z size bytes ht hi0 hz0 hz1 hz2 hzs hsz hb1 base W (.slice none 0 0) 0 xs hown g news tn hg hl h1 hn hbase
    refine ⟨none, 0, rfl, Nat.le_refl _, fun _ => rfl, _, w2, hrun, hown', fun w0 hbw => Below.grown hbw hgr hbase fun k hk => (by cases hk), Below.grown (Below.refl _ _) hgr (Nat.le_refl _) fun k hk => (by cases hk)⟩
  · refine ⟨some ⟨g1, 0, none⟩, cap, rfl, hc, (by intro h; cases h), ?_⟩
    obtain ⟨v', w2, hrun, hown', hgr⟩ := run_append_arg_grows (P := P) W t ty e i0 z size bytes ht hi0 hz0 hz1 hz2 hzs hsz ⟨g1, 0, none⟩ n n xs hown.1
      (fun j u hj => by
        have hjl : j < xs.length := (List.getElem?_eq_some_iff.1 hj).1
        have e' : (⟨g1, 0, none⟩ : Addr).add j = ⟨g1, j, none⟩ := by unfold Addr.add; split <;> simp_all
        rw [e', cell_of_row W g1 j cur _ (0, 0) hh, ← hj]
        conv => rhs; rw [← htk]
        have := hown.1
        rw [List.getElem?_take_of_lt (by omega)]
        simp) ⟨g, 0, none⟩ 1 1 news (by omega)
      (fun j u hj => by
        have e' : (⟨g, 0, none⟩ : Addr).add j = ⟨g, j, none⟩ := by unfold Addr.add; split <;> simp_all
        rw [e', hg.cell j]; simpa using hj) (by omega) (by unfold maxLen; omega) (by omega)
    exact ⟨v', w2, hrun, own_more hown' hbase, fun w0 hbw => Below.grown hbw hgr hbase fun k hk => (by cases hk), Below.grown (Below.refl _ _) hgr (Nat.le_refl _) fun k hk => (by cases hk)⟩
theorem app_full_i {T TS : Nat} (hinf : (Try.prog.info? T).map (fun i => (i.zero, i.size, i.bytes)) = some (some (.int .i64 0), 1, 8)) (ht : Try.prog.underlying TS = some (.slice T)) {base g tn : Nat} {W : World} {l : List Int} {v : Value} {x : Int} (hown : OwnI T W base v l) (hg : BK W g #[.int .i64 x] tn) (hn : l.length ≤ 100000) (hbase : base ≤ W.heap.size) :
    ∃ A c, v = .slice A l.length c ∧ l.length ≤ c ∧ (A = none → c = 0) ∧ ∃ v' w2, (Builtin.append_ #[TS, TS] TS #[.slice A l.length l.length, .slice (some ⟨g, 0, none⟩) 1 1]).run Try.prog W = .ok v' w2 ∧ OwnI T w2 base v' (l ++ [x]) ∧ (∀ w0, Below base w0 W → Below base w0 w2) ∧ Below W.heap.size W w2 := by
  obtain ⟨A, c, h1, h2, h3, v', w2, h4, h5, h6⟩ := app_full (news := [.int .i64 x]) hinf ht rfl (by decide) (by decide) hown hg rfl (by simp [Value.oneCell']) hn hbase TS
  refine ⟨A, c, h1, h2, h3, v', w2, h4, ?_, h6⟩
  unfold OwnI
  rw [← ofI_app, List.length_append]
  exact h5
/-- A way, a slice of kinks, is appended to a list of ways. -/
theorem app_full_wy {B base g tn : Nat} {W : World} {l : Stp} {v : Value} {u : Value} {x : Wy} (hown : OwnW W B base v l) (hu : RK W B u x) (hg : BK W g #[u] tn) (hn : l.length ≤ 100000) (hbase : base ≤ W.heap.size) (hB : B ≤ W.heap.size) :
    ∃ A c, v = .slice A l.length c ∧ l.length ≤ c ∧ (A = none → c = 0) ∧ ∃ v' w2, (Builtin.append_ #[86, 86] 86 #[.slice A l.length l.length, .slice (some ⟨g, 0, none⟩) 1 1]).run Try.prog W = .ok v' w2 ∧ OwnW w2 B base v' (l ++ [x]) ∧ (∀ w0, Below base w0 W → Below base w0 w2) ∧ Below W.heap.size W w2 := by
  obtain ⟨us, e1, e2, e3⟩ := hown
  have ho : u.oneCell' = true := by
    obtain ⟨A, c, b, o, rfl, _⟩ := hu
    rfl
  obtain ⟨A, c, h1, h2, h3, v', w2, h4, h5, h6, h7⟩ := app_full (news := [u]) wy_info wy_slice rfl (by decide) (by decide) e2 hg rfl (by simp [ho]) hn hbase 86
  refine ⟨A, c, h1, h2, h3, v', w2, h4, ⟨us ++ [u], by simp [e1], by rw [List.length_append]; exact h5, fun k y hy => ?_⟩, h6, h7⟩
  rcases Nat.lt_trichotomy k l.length with hk | hk | hk
  · rw [List.getElem?_append_left hk] at hy
    obtain ⟨u', q1, q2⟩ := e3 k y hy
    exact ⟨u', by rw [List.getElem?_append_left (by omega)]; exact q1, RK.below q2 (h7.mono hB)⟩
  · subst hk
    simp at hy
    subst hy
    exact ⟨u, by rw [← e1]; simp, RK.below hu (h7.mono hB)⟩
  · rw [List.getElem?_eq_none (by simp; omega)] at hy
    cases hy
end Go.Proofs.Ytkibdciomheekaa

namespace Hp
def firstE : List Int → Int
  | [] => 0
  | e :: l => if e = 0 then firstE l else e
theorem firstE_zero : ∀ {l : List Int}, firstE l = 0 ↔ ∀ e ∈ l, e = 0
  | [] => by simp [firstE]
  | e :: l => by
    unfold firstE
    by_cases h : e = 0
    · rw [if_pos h, firstE_zero]; simp [h]
    · rw [if_neg h]; simp [h]
theorem firstE_app : ∀ {a b : List Int}, (∀ e ∈ a, e = 0) → firstE (a ++ b) = firstE b
  | [], b, _ => rfl
  | e :: a, b, h => by
    show (if e = 0 then firstE (a ++ b) else e) = _
    rw [if_pos (h e (List.mem_cons_self ..)), firstE_app fun x hx => h x (List.mem_cons_of_mem _ hx)]
def nthS (ss : List Stp) (i : Nat) : Stp := ss.getD i []
theorem nthS_eq {ss : List Stp} {i : Nat} (h : i < ss.length) : nthS ss i = ss[i] := by simp [nthS, h]
theorem nthS_mem {ss : List Stp} {i : Nat} (h : i < ss.length) : nthS ss i ∈ ss := by rw [nthS_eq h]; exact List.getElem_mem h
theorem nthW_eq {s : Stp} {k : Nat} (h : k < s.length) : nthW s k = s[k] := by simp [nthW, h]
def waysE (s : Stp) : Int := firstE (s.map wayE)
def stepsE (ss : List Stp) : Int := firstE (ss.map waysE)
theorem waysE_at {s : Stp} {k : Nat} (hk : k < s.length) (h : ∀ j, j < k → wayE (nthW s j) = 0) (hne : wayE (nthW s k) ≠ 0) : waysE s = wayE (nthW s k) := by
  have e : s.map wayE = (s.take k).map wayE ++ wayE (nthW s k) :: (s.drop (k + 1)).map wayE := by
    rw [nthW_eq hk, ← List.map_cons, ← List.map_append, List.getElem_cons_drop, List.take_append_drop]
  unfold waysE
  rw [e, firstE_app]
  · show (if _ = 0 then _ else _) = _
    rw [if_neg hne]
  · intro x hx
    obtain ⟨w, hw, rfl⟩ := List.mem_map.1 hx
    obtain ⟨j, hj, rfl⟩ := List.mem_iff_getElem.1 hw
    rw [List.length_take] at hj
    have := h j (by omega)
    rw [nthW_eq (by omega)] at this
    simpa using this
theorem waysE_zero {s : Stp} : waysE s = 0 ↔ ∀ j, j < s.length → wayE (nthW s j) = 0 := by
  unfold waysE
  rw [firstE_zero]
  constructor
  · intro h j hj; exact h _ (List.mem_map.2 ⟨_, nthW_mem hj, rfl⟩)
  · intro h x hx
    obtain ⟨w, hw, rfl⟩ := List.mem_map.1 hx
    obtain ⟨j, hj, rfl⟩ := List.mem_iff_getElem.1 hw
    have := h j hj
    rwa [nthW_eq hj] at this
theorem stepsE_at {ss : List Stp} {i : Nat} (hi : i < ss.length) (h : ∀ j, j < i → waysE (nthS ss j) = 0) (hne : waysE (nthS ss i) ≠ 0) : stepsE ss = waysE (nthS ss i) := by
  have e : ss.map waysE = (ss.take i).map waysE ++ waysE (nthS ss i) :: (ss.drop (i + 1)).map waysE := by
    rw [nthS_eq hi, ← List.map_cons, ← List.map_append, List.getElem_cons_drop, List.take_append_drop]
  unfold stepsE
  rw [e, firstE_app]
  · show (if _ = 0 then _ else _) = _
    rw [if_neg hne]
  · intro x hx
    obtain ⟨w, hw, rfl⟩ := List.mem_map.1 hx
    obtain ⟨j, hj, rfl⟩ := List.mem_iff_getElem.1 hw
    rw [List.length_take] at hj
    have := h j (by omega)
    rw [nthS_eq (by omega)] at this
    simpa using this
theorem stepsE_zero {ss : List Stp} : stepsE ss = 0 ↔ ∀ j, j < ss.length → waysE (nthS ss j) = 0 := by
  unfold stepsE
  rw [firstE_zero]
  constructor
  · intro h j hj; exact h _ (List.mem_map.2 ⟨_, nthS_mem hj, rfl⟩)
  · intro h x hx
    obtain ⟨w, hw, rfl⟩ := List.mem_map.1 hx
    obtain ⟨j, hj, rfl⟩ := List.mem_iff_getElem.1 hw
    have := h j hj
    rwa [nthS_eq hj] at this
def oddB (s : Stp) : Bool := decide (s.length = 0 ∨ 5 < s.length)
/-- The error of a works. -/
def worksE (bars : List Rg) (ss : List Stp) : Int :=
  if (bars.length = 0 ∨ 6 < bars.length ∨ 6 < ss.length) ∨ ss.any oddB = true then 6 else if bars.any (fun r => !hard r) = true then 2 else stepsE ss
structure OkV (bars : List Rg) (ss : List Stp) : Prop where
  bpos : 0 < bars.length
  bfew : bars.length ≤ 6
  sfew : ss.length ≤ 6
  wpos : ∀ s ∈ ss, 0 < s.length ∧ s.length ≤ 5
  bok : ∀ b ∈ bars, OkR b
  sok : OkS ss
theorem okV_of {bars : List Rg} {ss : List Stp} (h : worksE bars ss = 0) : OkV bars ss := by
  unfold worksE at h
  split at h
  · cases h
  · rename_i h1
    split at h
    · cases h
    · rename_i h2
      have ha : ∀ s ∈ ss, oddB s = false := fun s hs => by
        cases e : oddB s
        · rfl
        · exact absurd (.inr (List.any_eq_true.2 ⟨s, hs, e⟩)) h1
      have hb : ∀ b ∈ bars, hard b = true := fun b hb => by
        cases e : hard b
        · exact absurd (List.any_eq_true.2 ⟨b, hb, by rw [e]; rfl⟩) h2
        · rfl
      refine ⟨by omega, by omega, by omega, fun s hs => ?_, fun b h => hard_iff.1 (hb b h), fun s hs w hw => ?_⟩
      · have := of_decide_eq_false (ha s hs); omega
      · obtain ⟨i, hi, rfl⟩ := List.mem_iff_getElem.1 hs
        have h3 := stepsE_zero.1 h i hi
        rw [nthS_eq hi] at h3
        obtain ⟨k, hk, rfl⟩ := List.mem_iff_getElem.1 hw
        have h4 := waysE_zero.1 h3 k hk
        rw [nthW_eq hk] at h4
        exact okW_of h4
theorem worksE_of {bars : List Rg} {ss : List Stp} (h : OkV bars ss) : worksE bars ss = 0 := by
  unfold worksE
  rw [if_neg, if_neg]
  · refine stepsE_zero.2 fun i hi => waysE_zero.2 fun k hk => wayE_of ?_
    rw [nthS_eq hi] at hk ⊢
    exact h.sok _ (List.getElem_mem hi) _ (nthW_mem hk)
  · rw [Bool.not_eq_true, List.any_eq_false]
    intro b hb
    have : hard b = true := hard_iff.2 (h.bok b hb)
    simp [this]
  · rintro (h1 | h1)
    · have := h.bpos; have := h.bfew; have := h.sfew; omega
    · obtain ⟨s, hs, e⟩ := List.any_eq_true.1 h1
      have := of_decide_eq_true e
      have := h.wpos s hs
      omega
/-- The error of a recipe of a works. -/
def badB (ss : List Stp) (ks : List Int) (i : Nat) : Bool := decide (ks.getD i 0 < 0 ∨ ((nthS ss i).length : Int) ≤ ks.getD i 0)
def recE (bars : List Rg) (ss : List Stp) (b : Int) (ks : List Int) : Int :=
  if worksE bars ss ≠ 0 then worksE bars ss else if ks.length ≠ ss.length then 15 else if b < 0 ∨ (bars.length : Int) ≤ b then 3 else if (List.range ks.length).any (badB ss ks) = true then 3 else 0
def nats (ks : List Int) : List Nat := ks.map Int.toNat
theorem mem_allR_iff : ∀ {ss : List Stp} {l : List Nat}, l ∈ allR ss ↔ l.length = ss.length ∧ ∀ i, i < ss.length → l.getD i 0 < (nthS ss i).length
  | [], l => by
    simp only [allR, List.mem_singleton, List.length_nil]
    constructor
    · rintro rfl; exact ⟨rfl, fun i hi => absurd hi (by omega)⟩
    · rintro ⟨h, _⟩; exact List.eq_nil_of_length_eq_zero h
  | s :: ss, l => by
    rw [mem_allR_cons]
    constructor
    · rintro ⟨k, ks, hk, hks, rfl⟩
      obtain ⟨h1, h2⟩ := mem_allR_iff.1 hks
      refine ⟨by simp [h1], fun i hi => ?_⟩
      cases i with
      | zero => exact hk
      | succ i => exact h2 i (by simpa using hi)
    · rintro ⟨h1, h2⟩
      match l, h1 with
      | k :: ks, h1 => exact ⟨k, ks, h2 0 (by simp), mem_allR_iff.2 ⟨by simpa using h1, fun i hi => h2 (i + 1) (by simpa using hi)⟩, rfl⟩
/-- A recipe of a valid works. -/
structure OkRec (bars : List Rg) (ss : List Stp) (b : Int) (ks : List Int) : Prop where
  works : OkV bars ss
  blo : 0 ≤ b
  bhi : b.toNat < bars.length
  ways : nats ks ∈ allR ss
  nn : ∀ k ∈ ks, 0 ≤ k
theorem okRec_of {bars : List Rg} {ss : List Stp} {b : Int} {ks : List Int} (h : recE bars ss b ks = 0) : OkRec bars ss b ks := by
  unfold recE at h
  split at h
  · rename_i h1; exact absurd h h1
  · rename_i h1
    split at h
    · cases h
    · rename_i h2
      split at h
      · cases h
      · rename_i h3
        split at h
        · cases h
        · rename_i h4
          have h2 : ks.length = ss.length := by omega
          have h5 : ∀ i, i < ks.length → badB ss ks i = false := fun i hi => by
            cases e : badB ss ks i
            · rfl
            · exact absurd (List.any_eq_true.2 ⟨i, List.mem_range.2 hi, e⟩) h4
          have h6 : ∀ i, i < ks.length → 0 ≤ ks.getD i 0 ∧ ks.getD i 0 < (nthS ss i).length := fun i hi => by
            have := of_decide_eq_false (h5 i hi); omega
          refine ⟨okV_of (by omega), by omega, by omega, mem_allR_iff.2 ⟨by simp [nats, h2], fun i hi => ?_⟩, fun k hk => ?_⟩
          · have := h6 i (by omega)
            have e : (nats ks).getD i 0 = (ks.getD i 0).toNat := by
              unfold nats
              simp [List.getD_eq_getElem?_getD, List.getElem?_map, show i < ks.length by omega]
            rw [e]; omega
          · obtain ⟨i, hi, rfl⟩ := List.mem_iff_getElem.1 hk
            have := (h6 i hi).1
            simpa [hi] using this
theorem recE_of {bars : List Rg} {ss : List Stp} {b : Int} {ks : List Int} (h : OkRec bars ss b ks) : recE bars ss b ks = 0 := by
  unfold recE
  obtain ⟨h1, h2⟩ := mem_allR_iff.1 h.ways
  have hl : ks.length = ss.length := by simpa [nats] using h1
  have hb := h.bhi
  have hb0 := h.blo
  rw [if_neg (by rw [worksE_of h.works]; simp), if_neg (by omega), if_neg (by omega), if_neg]
  rw [Bool.not_eq_true, List.any_eq_false]
  intro i hi
  have hi := List.mem_range.1 hi
  have h3 := h2 i (by omega)
  have e : (nats ks).getD i 0 = (ks.getD i 0).toNat := by
    unfold nats
    simp [List.getD_eq_getElem?_getD, List.getElem?_map, hi]
  have h4 : 0 ≤ ks.getD i 0 := by
    have : ks.getD i 0 = ks[i] := by simp [hi]
    rw [this]; exact h.nn _ (List.getElem_mem hi)
  rw [e] at h3
  unfold badB
  simp only [decide_eq_true_eq]
  omega
/-- The error of what was measured. -/
def measE (bars : List Rg) (ss : List Stp) (m : Rg) : Int := if worksE bars ss ≠ 0 then worksE bars ss else if hard m then 0 else 2
end Hp

namespace Hp
abbrev Row := Nat → Bool
def noR : Row := fun _ => false
def flR (f : Row) (r : Rg) : Row := fun h => f h || inR (h : Int) r
def mtR (f : Row) (r : Rg) : Bool := (List.range 1001).any fun h => inR (h : Int) r && f h
theorem mtR_iff {f : Row} {r : Rg} : mtR f r = true ↔ ∃ h : Nat, h < 1001 ∧ inR (h : Int) r = true ∧ f h = true := by
  unfold mtR
  simp [List.any_eq_true]
theorem flR_iff {f : Row} {r : Rg} {h : Nat} : flR f r h = true ↔ f h = true ∨ inR (h : Int) r = true := by simp [flR]
/-- The hardnesses of a kink; what they can be after it. -/
def kFrom (w : Wy) (i : Nat) : Rg := ⟨(nthK w i).src, endK w i⟩
def kTo (w : Wy) (i : Nat) : Rg := (nthK w i).rg
/-- From the row f to the row g: over one kink, a way, a step. -/
def kinkF (f : Row) (w : Wy) (g : Row) (i : Nat) : Row := if mtR f (kFrom w i) then flR g (kTo w i) else g
def wayF (f : Row) (w : Wy) (n : Nat) (g : Row) : Row := (List.range n).foldl (kinkF f w) g
def nextF (f : Row) (s : Stp) : Row := s.foldl (fun g w => wayF f w w.length g) noR
def kinkB (f : Row) (w : Wy) (g : Row) (i : Nat) : Row := if mtR f (kTo w i) then flR g (kFrom w i) else g
def wayB (f : Row) (w : Wy) (n : Nat) (g : Row) : Row := (List.range n).foldl (kinkB f w) g
def prevF (f : Row) (s : Stp) : Row := s.foldl (fun g w => wayB f w w.length g) noR
theorem wayF_succ (f : Row) (w : Wy) (n : Nat) (g : Row) : wayF f w (n + 1) g = kinkF f w (wayF f w n g) n := by
  unfold wayF; rw [List.range_succ, List.foldl_append, List.foldl_cons, List.foldl_nil]
theorem wayB_succ (f : Row) (w : Wy) (n : Nat) (g : Row) : wayB f w (n + 1) g = kinkB f w (wayB f w n g) n := by
  unfold wayB; rw [List.range_succ, List.foldl_append, List.foldl_cons, List.foldl_nil]
def frontF (bars : List Rg) (ss : List Stp) : Row := ss.foldl nextF (bars.foldl flR noR)
def rearF (m : Rg) : List Stp → Row
  | [] => flR noR m
  | s :: ss => prevF (rearF m ss) s
theorem frontF_snoc (bars : List Rg) (ss : List Stp) (s : Stp) : frontF bars (ss ++ [s]) = nextF (frontF bars ss) s := by simp [frontF]
theorem bars_iff : ∀ {bars : List Rg} {f : Row} {x : Nat}, bars.foldl flR f x = true ↔ f x = true ∨ ∃ b ∈ bars, inR (x : Int) b = true
  | [], f, x => by simp
  | b :: bars, f, x => by
    rw [List.foldl_cons, bars_iff, flR_iff]
    simp [or_assoc]
theorem wayF_iff {f : Row} {w : Wy} {g : Row} {x : Nat} : ∀ {n : Nat}, wayF f w n g x = true ↔ g x = true ∨ ∃ i, i < n ∧ mtR f (kFrom w i) = true ∧ inR (x : Int) (kTo w i) = true
  | 0 => by simp [wayF]
  | n + 1 => by
    rw [wayF_succ]
    unfold kinkF
    have ih := @wayF_iff f w g x n
    constructor
    · intro h
      split at h
      · rename_i hm
        rcases flR_iff.1 h with h | h
        · rcases ih.1 h with h | ⟨i, h1, h2⟩
          · exact .inl h
          · exact .inr ⟨i, by omega, h2⟩
        · exact .inr ⟨n, by omega, hm, h⟩
      · rcases ih.1 h with h | ⟨i, h1, h2⟩
        · exact .inl h
        · exact .inr ⟨i, by omega, h2⟩
    · intro h
      have h' : (g x = true ∨ ∃ i, i < n ∧ mtR f (kFrom w i) = true ∧ inR (x : Int) (kTo w i) = true) ∨ (mtR f (kFrom w n) = true ∧ inR (x : Int) (kTo w n) = true) := by
        rcases h with h | ⟨i, h1, h2⟩
        · exact .inl (.inl h)
        · rcases Nat.lt_succ_iff_lt_or_eq.1 h1 with h1 | rfl
          · exact .inl (.inr ⟨i, h1, h2⟩)
          · exact .inr h2
      rcases h' with h' | ⟨h1, h2⟩
      · have := ih.2 h'
        split
        · exact flR_iff.2 (.inl this)
        · exact this
      · rw [if_pos h1]; exact flR_iff.2 (.inr h2)
theorem wayB_iff {f : Row} {w : Wy} {g : Row} {x : Nat} : ∀ {n : Nat}, wayB f w n g x = true ↔ g x = true ∨ ∃ i, i < n ∧ mtR f (kTo w i) = true ∧ inR (x : Int) (kFrom w i) = true
  | 0 => by simp [wayB]
  | n + 1 => by
    rw [wayB_succ]
    unfold kinkB
    have ih := @wayB_iff f w g x n
    constructor
    · intro h
      split at h
      · rename_i hm
        rcases flR_iff.1 h with h | h
        · rcases ih.1 h with h | ⟨i, h1, h2⟩
          · exact .inl h
          · exact .inr ⟨i, by omega, h2⟩
        · exact .inr ⟨n, by omega, hm, h⟩
      · rcases ih.1 h with h | ⟨i, h1, h2⟩
        · exact .inl h
        · exact .inr ⟨i, by omega, h2⟩
    · intro h
      have h' : (g x = true ∨ ∃ i, i < n ∧ mtR f (kTo w i) = true ∧ inR (x : Int) (kFrom w i) = true) ∨ (mtR f (kTo w n) = true ∧ inR (x : Int) (kFrom w n) = true) := by
        rcases h with h | ⟨i, h1, h2⟩
        · exact .inl (.inl h)
        · rcases Nat.lt_succ_iff_lt_or_eq.1 h1 with h1 | rfl
          · exact .inl (.inr ⟨i, h1, h2⟩)
          · exact .inr h2
      rcases h' with h' | ⟨h1, h2⟩
      · have := ih.2 h'
        split
        · exact flR_iff.2 (.inl this)
        · exact this
      · rw [if_pos h1]; exact flR_iff.2 (.inr h2)
/-- A hardness is one of a kink just if this kink is its. -/
theorem kFrom_iff {w : Wy} (ok : OkW w) {i : Nat} (hi : i < w.length) {h : Int} (h9 : h ≤ 1000) : inR h (kFrom w i) = true ↔ (nthK w i).src ≤ h ∧ ∀ j, i < j → j < w.length → h < (nthK w j).src := by
  rw [inR_iff]
  unfold kFrom endK
  dsimp only
  constructor
  · rintro ⟨h1, h2⟩
    refine ⟨h1, fun j h3 h4 => ?_⟩
    rw [if_pos (by omega)] at h2
    have := (ok.mono j (i + 1) (by omega) h4).1
    omega
  · rintro ⟨h1, h2⟩
    refine ⟨h1, ?_⟩
    split
    · rename_i hl; have := h2 (i + 1) (by omega) hl; omega
    · exact h9
theorem kink_fwd {w : Wy} (ok : OkW w) {f : Row} {x : Int} : (∃ i, i < w.length ∧ mtR f (kFrom w i) = true ∧ inR x (kTo w i) = true) ↔ ∃ h : Nat, h < 1001 ∧ f h = true ∧ inR x (aft w h) = true := by
  constructor
  · rintro ⟨i, hi, hm, hx⟩
    obtain ⟨h, h1, h2, h3⟩ := mtR_iff.1 hm
    obtain ⟨h4, h5⟩ := (kFrom_iff ok hi (by omega)).1 h2
    exact ⟨h, h1, h3, by rw [aft_at ok (by omega) hi h4 h5]; exact hx⟩
  · rintro ⟨h, h1, h2, hx⟩
    obtain ⟨i, hi, he, h4, h5⟩ := aft_ex ok (h := (h : Int)) (by omega)
    rw [he] at hx
    exact ⟨i, hi, mtR_iff.2 ⟨h, h1, (kFrom_iff ok hi (by omega)).2 ⟨h4, h5⟩, h2⟩, hx⟩
theorem kink_back {w : Wy} (ok : OkW w) {f : Row} {h : Nat} (h9 : h < 1001) : (∃ i, i < w.length ∧ mtR f (kTo w i) = true ∧ inR (h : Int) (kFrom w i) = true) ↔ ∃ x : Nat, x < 1001 ∧ f x = true ∧ inR (x : Int) (aft w h) = true := by
  constructor
  · rintro ⟨i, hi, hm, hx⟩
    obtain ⟨x, h1, h2, h3⟩ := mtR_iff.1 hm
    obtain ⟨h4, h5⟩ := (kFrom_iff ok hi (by omega)).1 hx
    exact ⟨x, h1, h3, by rw [aft_at ok (by omega) hi h4 h5]; exact h2⟩
  · rintro ⟨x, h1, h2, hx⟩
    obtain ⟨i, hi, he, h4, h5⟩ := aft_ex ok (h := (h : Int)) (by omega)
    rw [he] at hx
    exact ⟨i, hi, mtR_iff.2 ⟨x, h1, hx, h2⟩, (kFrom_iff ok hi (by omega)).2 ⟨h4, h5⟩⟩
theorem foldl_or {α : Type} {F : Row → α → Row} {p : α → Nat → Prop} {x : Nat} (l : List α) (hF : ∀ g, ∀ a ∈ l, (F g a x = true ↔ g x = true ∨ p a x)) (g : Row) : (l.foldl F g) x = true ↔ g x = true ∨ ∃ a ∈ l, p a x := by
  induction l generalizing g with
  | nil => simp
  | cons a l ih =>
    rw [List.foldl_cons, ih (fun g b hb => hF g b (List.mem_cons_of_mem _ hb)), hF g a (List.mem_cons_self ..)]
    simp [or_assoc]
theorem mem_nthW {s : Stp} {w : Wy} (h : w ∈ s) : ∃ k, k < s.length ∧ nthW s k = w := by
  obtain ⟨k, hk, rfl⟩ := List.mem_iff_getElem.1 h
  exact ⟨k, hk, nthW_eq hk⟩
theorem nextF_iff {s : Stp} (ok : ∀ w ∈ s, OkW w) {f : Row} {x : Nat} : nextF f s x = true ↔ ∃ k, k < s.length ∧ ∃ h : Nat, h < 1001 ∧ f h = true ∧ inR (x : Int) (aft (nthW s k) h) = true := by
  unfold nextF
  rw [foldl_or (p := fun w x => ∃ h : Nat, h < 1001 ∧ f h = true ∧ inR (x : Int) (aft w h) = true) s (fun g w hw => by rw [wayF_iff, kink_fwd (ok w hw)])]
  constructor
  · rintro (h | ⟨w, hw, h⟩)
    · cases h
    · obtain ⟨k, hk, rfl⟩ := mem_nthW hw
      exact ⟨k, hk, h⟩
  · rintro ⟨k, hk, h⟩
    exact .inr ⟨_, nthW_mem hk, h⟩
theorem prevF_iff {s : Stp} (ok : ∀ w ∈ s, OkW w) {f : Row} {h : Nat} (h9 : h < 1001) : prevF f s h = true ↔ ∃ k, k < s.length ∧ ∃ x : Nat, x < 1001 ∧ f x = true ∧ inR (x : Int) (aft (nthW s k) h) = true := by
  unfold prevF
  rw [foldl_or (p := fun w h => ∃ x : Nat, x < 1001 ∧ f x = true ∧ inR (x : Int) (aft w h) = true) s (fun g w hw => by rw [wayB_iff, kink_back (ok w hw) h9])]
  constructor
  · rintro (h | ⟨w, hw, h⟩)
    · cases h
    · obtain ⟨k, hk, rfl⟩ := mem_nthW hw
      exact ⟨k, hk, h⟩
  · rintro ⟨k, hk, h⟩
    exact .inr ⟨_, nthW_mem hk, h⟩
/-- Rows and what they mean. -/
theorem front_row {bars : List Rg} (hb : ∀ b ∈ bars, OkR b) : ∀ (n : Nat) {ss : List Stp}, ss.length = n → OkS ss → ∀ {x : Int}, frontP bars ss x ↔ ∃ h : Nat, x = h ∧ h < 1001 ∧ frontF bars ss h = true
  | 0, ss, hn, _, x => by
    obtain rfl : ss = [] := List.eq_nil_of_length_eq_zero hn
    show (∃ b ∈ bars, inR x b = true) ↔ ∃ h : Nat, x = h ∧ h < 1001 ∧ bars.foldl flR noR h = true
    constructor
    · rintro ⟨b, h1, h2⟩
      have h3 := hb b h1
      have h4 := inR_iff.1 h2
      have h5 := h3.2
      refine ⟨x.toNat, by omega, by omega, bars_iff.2 (.inr ⟨b, h1, ?_⟩)⟩
      rw [show ((x.toNat : Nat) : Int) = x by omega]; exact h2
    · rintro ⟨h, rfl, h1, h2⟩
      rcases bars_iff.1 h2 with h2 | h2
      · cases h2
      · exact h2
  | n + 1, ss, hn, ok, x => by
    obtain ⟨t, s, rfl⟩ : ∃ t s, ss = t ++ [s] := ⟨ss.dropLast, ss.getLast (by intro h; rw [h] at hn; cases hn), (List.dropLast_concat_getLast _).symm⟩
    have hl : t.length = n := by simpa using hn
    obtain ⟨ok1, ok2⟩ := ok.app
    have oks : ∀ w ∈ s, OkW w := ok2 s (by simp)
    rw [frontP_snoc, frontF_snoc]
    unfold frontS
    constructor
    · rintro ⟨k, hk, h, hF, hx⟩
      obtain ⟨h', rfl, h1, h2⟩ := (front_row hb n hl ok1).1 hF
      have h3 := aft_rng (oks _ (nthW_mem hk)) (h := (h' : Int)) (by omega)
      have h4 := inR_iff.1 hx
      refine ⟨x.toNat, by omega, by omega, (nextF_iff oks).2 ⟨k, hk, h', h1, h2, ?_⟩⟩
      rw [show ((x.toNat : Nat) : Int) = x by omega]; exact hx
    · rintro ⟨x', rfl, h1, h2⟩
      obtain ⟨k, hk, h, h3, h4, h5⟩ := (nextF_iff oks).1 h2
      exact ⟨k, hk, h, (front_row hb n hl ok1).2 ⟨h, rfl, h3, h4⟩, h5⟩
theorem rear_row {m : Rg} (hm : OkR m) : ∀ {ss : List Stp} (_ : OkS ss) {h : Nat}, h < 1001 → (rearP m ss h ↔ rearF m ss h = true)
  | [], _, h, h9 => by
    show inR (h : Int) m = true ↔ flR noR m h = true
    rw [flR_iff]
    constructor
    · exact .inr
    · rintro (h | h)
      · cases h
      · exact h
  | s :: ss, ok, h, h9 => by
    have oks : ∀ w ∈ s, OkW w := ok s (List.mem_cons_self ..)
    show (∃ k, k < s.length ∧ ∃ x, inR x (aft (nthW s k) h) = true ∧ rearP m ss x) ↔ prevF (rearF m ss) s h = true
    rw [prevF_iff oks h9]
    constructor
    · rintro ⟨k, hk, x, hx, hr⟩
      have h3 := aft_rng (oks _ (nthW_mem hk)) (h := (h : Int)) (by omega)
      have h4 := inR_iff.1 hx
      obtain ⟨x', rfl⟩ : ∃ x' : Nat, x = x' := ⟨x.toNat, by omega⟩
      exact ⟨k, hk, x', by omega, (rear_row hm ok.tail (by omega)).1 hr, hx⟩
    · rintro ⟨k, hk, x, h1, h2, h3⟩
      exact ⟨k, hk, x, h3, (rear_row hm ok.tail h1).2 h2⟩
/-- Hardnesses before a step that can be had, and lead to what was measured. -/
def bothF (bars : List Rg) (m : Rg) (ss : List Stp) (i : Nat) : Row := fun h => frontF bars (ss.take i) h && rearF m (ss.drop i) h
def emptyF (f : Row) : Bool := (List.range 1001).all fun h => !f h
theorem emptyF_iff {f : Row} : emptyF f = true ↔ ∀ h, h < 1001 → f h = false := by simp [emptyF]
def leadsF (f g : Row) (w : Wy) (n : Nat) : Bool := (List.range n).any fun i => mtR f (kFrom w i) && mtR g (kTo w i)
theorem leadsF_succ (f g : Row) (w : Wy) (n : Nat) : leadsF f g w (n + 1) = (leadsF f g w n || (mtR f (kFrom w n) && mtR g (kTo w n))) := by
  unfold leadsF; rw [List.range_succ, List.any_append]; simp
theorem leadsF_iff {f g : Row} {w : Wy} (ok : OkW w) : leadsF f g w w.length = true ↔ ∃ h x : Nat, h < 1001 ∧ x < 1001 ∧ f h = true ∧ g x = true ∧ inR (x : Int) (aft w h) = true := by
  constructor
  · intro h
    obtain ⟨i, hi, h1⟩ := List.any_eq_true.1 h
    rw [List.mem_range] at hi
    rw [Bool.and_eq_true] at h1
    obtain ⟨x, x1, x2, x3⟩ := mtR_iff.1 h1.2
    obtain ⟨h, g1, g2, g3⟩ := (kink_fwd ok (f := f) (x := (x : Int))).1 ⟨i, hi, h1.1, x2⟩
    exact ⟨h, x, g1, x1, g2, x3, g3⟩
  · rintro ⟨h, x, g1, x1, g2, x3, g3⟩
    obtain ⟨i, hi, h1, h2⟩ := (kink_fwd ok (f := f) (x := (x : Int))).2 ⟨h, g1, g2, g3⟩
    exact List.any_eq_true.2 ⟨i, List.mem_range.2 hi, by rw [Bool.and_eq_true]; exact ⟨h1, mtR_iff.2 ⟨x, x1, h2, x3⟩⟩⟩
/-- The bars, the ways of a step that can have made a blade. -/
def someB (bars : List Rg) (m : Rg) (ss : List Stp) : List Nat := (List.range bars.length).filter fun b => mtR (rearF m ss) (nthB bars b)
def someW (bars : List Rg) (m : Rg) (ss : List Stp) (i : Nat) : List Nat := (List.range (nthS ss i).length).filter fun k => leadsF (bothF bars m ss i) (rearF m (ss.drop (i + 1))) (nthW (nthS ss i) k) (nthW (nthS ss i) k).length
section
variable {bars : List Rg} {m : Rg} {ss : List Stp}
theorem bothF_iff (hb : ∀ b ∈ bars, OkR b) (ok : OkS ss) (hm : OkR m) {i h : Nat} (h9 : h < 1001) : bothF bars m ss i h = true ↔ frontP bars (ss.take i) h ∧ rearP m (ss.drop i) h := by
  have ok1 : OkS (ss.take i) := fun s hs => ok s (List.mem_of_mem_take hs)
  have ok2 : OkS (ss.drop i) := fun s hs => ok s (List.mem_of_mem_drop hs)
  unfold bothF
  rw [Bool.and_eq_true, front_row hb _ rfl ok1, rear_row hm ok2 h9]
  constructor
  · rintro ⟨h1, h2⟩; exact ⟨⟨h, rfl, h9, h1⟩, h2⟩
  · rintro ⟨⟨h', h1, h2, h3⟩, h4⟩
    obtain rfl : h = h' := by omega
    exact ⟨h3, h4⟩
theorem empty_iff (hb : ∀ b ∈ bars, OkR b) (ok : OkS ss) (hm : OkR m) : emptyF (bothF bars m ss 0) = true ↔ makers bars ss m = [] := by
  rw [none_iff hb ok hm.1, emptyF_iff]
  constructor
  · rintro h x ⟨h1, h2⟩
    obtain ⟨x', rfl, h9, h3⟩ := (front_row hb 0 rfl (fun s hs => by cases hs)).1 h1
    have := (bothF_iff hb ok hm (i := 0) h9).2 ⟨h1, h2⟩
    rw [h _ h9] at this
    cases this
  · intro h x h9
    cases hx : bothF bars m ss 0 x with
    | false => rfl
    | true => exact absurd ((bothF_iff hb ok hm h9).1 hx) (h x)
theorem someB_iff (hb : ∀ b ∈ bars, OkR b) (ok : OkS ss) (hm : OkR m) {b : Nat} : b ∈ someB bars m ss ↔ ∃ r ∈ makers bars ss m, r.1 = b := by
  unfold someB
  rw [List.mem_filter, List.mem_range, mtR_iff]
  constructor
  · rintro ⟨h1, h, h2, h3, h4⟩
    exact (bar_iff hb ok hm.1 h1).2 ⟨h, h3, (rear_row hm ok h2).2 h4⟩
  · intro hr
    have h1 : b < bars.length := by
      obtain ⟨r, h1, rfl⟩ := hr
      exact (mem_makers.1 h1).1
    obtain ⟨x, h2, h3⟩ := (bar_iff hb ok hm.1 h1).1 hr
    have h4 := (hb _ (nthB_mem h1)).2
    have h5 := inR_iff.1 h2
    obtain ⟨x', rfl⟩ : ∃ x' : Nat, x = x' := ⟨x.toNat, by omega⟩
    exact ⟨h1, x', by omega, h2, (rear_row hm ok (by omega)).1 h3⟩
theorem someW_iff (hb : ∀ b ∈ bars, OkR b) (ok : OkS ss) (hm : OkR m) {i k : Nat} (hi : i < ss.length) : k ∈ someW bars m ss i ↔ ∃ r ∈ makers bars ss m, r.2[i]? = some k := by
  have e : ss = ss.take i ++ nthS ss i :: ss.drop (i + 1) := by
    rw [nthS_eq hi, List.getElem_cons_drop, List.take_append_drop]
  have hlt : (ss.take i).length = i := by rw [List.length_take]; omega
  have hw := fun (hk : k < (nthS ss i).length) => way_iff (bars := bars) (pre := ss.take i) (post := ss.drop (i + 1)) (s := nthS ss i) (m := m) hb (by rw [← e]; exact ok) hm.1 hk
  rw [← e, hlt] at hw
  have ok2 : OkS (ss.drop (i + 1)) := fun s hs => ok s (List.mem_of_mem_drop hs)
  have ok1 : OkS (ss.take i) := fun s hs => ok s (List.mem_of_mem_take hs)
  unfold someW
  rw [List.mem_filter, List.mem_range]
  constructor
  · rintro ⟨h1, h2⟩
    have okw := ok _ (nthS_mem hi) _ (nthW_mem h1)
    obtain ⟨h, x, g1, x1, g2, g3, g4⟩ := (leadsF_iff okw).1 h2
    exact (hw h1).2 ⟨h, x, ((bothF_iff hb ok hm g1).1 g2).1, g4, (rear_row hm ok2 x1).2 g3⟩
  · intro hr
    have h1 : k < (nthS ss i).length := by
      obtain ⟨r, h1, h2⟩ := hr
      have h3 := (mem_allR_iff.1 (mem_makers.1 h1).2.1).2 i hi
      rw [List.getD_eq_getElem?_getD, h2] at h3
      exact h3
    have okw := ok _ (nthS_mem hi) _ (nthW_mem h1)
    obtain ⟨h, x, f1, f2, f3⟩ := (hw h1).1 hr
    obtain ⟨h', rfl, g1, g2⟩ := (front_row hb _ rfl ok1).1 f1
    have h3 := aft_rng okw (h := (h' : Int)) (by omega)
    have h4 := inR_iff.1 f2
    obtain ⟨x', rfl⟩ : ∃ x' : Nat, x = x' := ⟨x.toNat, by omega⟩
    refine ⟨h1, (leadsF_iff okw).2 ⟨h', x', g1, by omega, (bothF_iff hb ok hm g1).2 ⟨f1, ?_⟩, (rear_row hm ok2 (by omega)).1 f3, f2⟩⟩
    have ed : ss.drop i = nthS ss i :: ss.drop (i + 1) := by rw [nthS_eq hi, List.getElem_cons_drop]
    rw [ed]
    exact ⟨k, h1, x', f2, f3⟩
end
end Hp

namespace Go.Proofs.Ytkibdciomheekaa
open Go.RowKit Hp

def cel (b : Bool) : Value := .int .i8 (if b then 1 else 0)
def rowL (f : Row) : List Value := (List.range 1001).map fun h => cel (f h)
theorem rowL_len (f : Row) : (rowL f).length = 1001 := by simp [rowL]
theorem rowL_at (f : Row) {h : Nat} (hh : h < 1001) : (rowL f)[h]? = some (cel (f h)) := by simp [rowL, hh]
theorem rowL_ext {f g : Row} (h : ∀ x, x < 1001 → f x = g x) : rowL f = rowL g := by
  refine List.map_congr_left fun x hx => ?_
  rw [h x (List.mem_range.1 hx)]
def rowV (f : Row) : Value := .agg (rowL f).toArray
/-- The block g holds n rows, one behind another. -/
def Gd (W : World) (g : Nat) (t : TypeId) (n : Nat) (F : Nat → Row) : Prop :=
  ∃ cs : Array Value, BK W g cs t ∧ n * 1001 ≤ cs.size ∧ ∀ i h, i < n → h < 1001 → cs[i * 1001 + h]? = some (cel (F i h))
def upd (F : Nat → Row) (i : Nat) (f : Row) : Nat → Row := fun j => if j = i then f else F j
theorem upd_same (F : Nat → Row) (i : Nat) (f : Row) : upd F i f i = f := if_pos rfl
theorem upd_other (F : Nat → Row) {i j : Nat} (f : Row) (h : j ≠ i) : upd F i f j = F j := if_neg h
def seR (f : Row) (h : Nat) (b : Bool) : Row := fun x => if x = h then b else f x
section
variable {W W' : World} {g : Nat} {t : TypeId} {n : Nat} {F : Nat → Row}
theorem Gd.lt (h : Gd W g t n F) : g < W.heap.size := by obtain ⟨cs, h1, _⟩ := h; exact h1.lt
theorem Gd.cell (h : Gd W g t n F) {i x : Nat} (hi : i < n) (hx : x < 1001) : W.cell? ⟨g, i * 1001 + x, none⟩ = some (cel (F i x)) := by
  obtain ⟨cs, h1, _, h3⟩ := h
  rw [h1.cell]; exact h3 i x hi hx
theorem Gd.frozen (h : Gd W g t n F) (j : Nat) : W.frozen? ⟨g, j, none⟩ = false := by obtain ⟨cs, h1, _⟩ := h; exact h1.frozen j
theorem Gd.heap (h : Gd W g t n F) (hb : W'.heap[g]? = W.heap[g]?) : Gd W' g t n F := by
  obtain ⟨cs, h1, h2⟩ := h
  exact ⟨cs, hb.trans h1, h2⟩
theorem Gd.below {B : Nat} (h : Gd W g t n F) (hb : Below B W W') (hg : g < B) : Gd W' g t n F := h.heap (hb.block g hg)
theorem Gd.alloc (h : Gd W g t n F) (o : Obj) : Gd (W.alloc o) g t n F := h.heap (Below.heap_alloc W o g h.lt)
theorem Gd.far (h : Gd W g t n F) {p : Addr} (hp : g ≠ p.block) (u : Value) : Gd (W.setCell p u) g t n F := h.heap (Below.heap_setCell W p u g hp)
theorem Gd.grown {row : Option Nat} (h : Gd W g t n F) (hb : W.grownBy W' row) (hg : some g ≠ row) : Gd W' g t n F := h.heap (hb.block g h.lt hg)
theorem Gd.adm {B : Nat} (h : Gd W g t n F) (ha : Adm B W W') : Gd W' g t n F := by
  obtain ⟨cs, h1, h2⟩ := h
  exact ⟨cs, ha.cells h1, h2⟩
theorem Gd.congr {F' : Nat → Row} (h : Gd W g t n F) (he : ∀ i x, i < n → x < 1001 → F i x = F' i x) : Gd W g t n F' := by
  obtain ⟨cs, h1, h2, h3⟩ := h
  exact ⟨cs, h1, h2, fun i x hi hx => by rw [← he i x hi hx]; exact h3 i x hi hx⟩
theorem Gd.set (h : Gd W g t n F) {i x : Nat} (hi : i < n) (hx : x < 1001) (b : Bool) : Gd (W.setCell ⟨g, i * 1001 + x, none⟩ (cel b)) g t n (upd F i (seR (F i) x b)) := by
  obtain ⟨cs, h1, h2, h3⟩ := h
  refine ⟨_, h1.set _ _, by simpa using h2, fun j y hj hy => ?_⟩
  have hlt : i * 1001 + x < cs.size := Nat.lt_of_lt_of_le (by rw [Nat.succ_mul]; exact Nat.add_lt_add_left hx _ : i * 1001 + x < (i + 1) * 1001) (Nat.le_trans (Nat.mul_le_mul_right _ hi) h2)
  by_cases hji : j = i
  · subst hji
    rw [upd_same]
    by_cases hyx : y = x
    · subst hyx
      simp [seR, hlt]
    · rw [Array.getElem?_setIfInBounds_ne (by omega), h3 j y hj hy]
      simp [seR, hyx]
  · rw [upd_other _ _ hji, Array.getElem?_setIfInBounds_ne (by omega)]
    exact h3 j y hj hy
theorem Gd.range (h : Gd W g t n F) {i : Nat} (hi : i < n) : W.rangeAt g (i * 1001) (rowL (F i)) := by
  intro j v hv
  have hj : j < 1001 := by
    have := (List.getElem?_eq_some_iff.1 hv).1
    rw [rowL_len] at this; exact this
  rw [rowL_at _ hj] at hv
  rw [h.cell hi hj]; exact hv
theorem Gd.there (h : Gd W g t n F) {i : Nat} (hi : i < n) : W.there g (i * 1001) 1001 := fun j hj => ⟨by rw [h.cell hi hj]; rfl, h.frozen _⟩
end
/-- What is stored cell by cell into a block. -/
theorem BK.setCells {g : Nat} {t : TypeId} : ∀ (vs : List Value) (o : Nat) (W : World) (L : List Value), BK W g L.toArray t → o + vs.length ≤ L.length → BK (W.setCells g o vs) g (L.take o ++ vs ++ L.drop (o + vs.length)).toArray t
  | [], o, W, L, h, _ => by
    unfold World.setCells
    simpa using h
  | v :: vs, o, W, L, h, hl => by
    unfold World.setCells
    simp only [List.length_cons] at hl ⊢
    have h1 := h.set o v
    rw [List.setIfInBounds_toArray] at h1
    have ih := BK.setCells vs (o + 1) _ (L.set o v) h1 (by rw [List.length_set]; omega)
    have e : (L.set o v).take (o + 1) ++ vs ++ (L.set o v).drop (o + 1 + vs.length) = L.take o ++ v :: vs ++ L.drop (o + (vs.length + 1)) := by
      rw [List.take_succ_eq_append_getElem (by rw [List.length_set]; omega), List.take_set_of_le (Nat.le_refl _), List.getElem_set_self, List.drop_set_of_lt (by omega), show o + 1 + vs.length = o + (vs.length + 1) by omega]
      simp
    rw [e] at ih
    exact ih
theorem setCells_below {n b : Nat} {w0 : World} (hb : n ≤ b) : ∀ (vs : List Value) (o : Nat) (w : World), Below n w0 w → Below n w0 (w.setCells b o vs)
  | [], _, _, h => h
  | v :: vs, o, w, h => by
    unfold World.setCells
    exact setCells_below hb vs _ _ (Below.setCell h (by exact hb) _)
theorem grown_set {w W : World} {gb : Nat} (h : w.grownBy W (some gb)) (i : Nat) (u : Value) : w.grownBy (W.setCell ⟨gb, i, none⟩ u) (some gb) :=
  ⟨h.os, h.tape, h.output, by simpa [World.setCell] using h.size, fun k hk hr => (Below.heap_setCell _ _ _ _ (fun e => hr (by rw [e]))).trans (h.block k hk hr)⟩
theorem grown_sets {w : World} {gb : Nat} : ∀ (vs : List Value) (o : Nat) (W : World), w.grownBy W (some gb) → w.grownBy (W.setCells gb o vs) (some gb)
  | [], _, _, h => h
  | v :: vs, o, W, h => by
    unfold World.setCells
    exact grown_sets vs _ _ (grown_set h o v)
theorem app3_right {α : Type} (A M B : List α) {a m k : Nat} (ha : A.length = a) (hm : M.length = m) (hk : a + m ≤ k) : (A ++ M ++ B)[k]? = B[k - (a + m)]? := by
  subst ha; subst hm
  rw [List.getElem?_append_right (by rw [List.length_append]; omega), List.length_append]
/-- A whole row is stored over one of the rows of a block. -/
theorem Gd.put {W : World} {g : Nat} {t : TypeId} {n : Nat} {F : Nat → Row} (h : Gd W g t n F) {i : Nat} (hi : i < n) (f : Row) : Gd (W.setCells g (i * 1001) (rowL f)) g t n (upd F i f) := by
  obtain ⟨cs, h1, h2, h3⟩ := h
  have hin : i * 1001 + 1001 ≤ cs.size := Nat.le_trans (by rw [← Nat.succ_mul]; exact Nat.mul_le_mul_right _ hi) h2
  have h4 := BK.setCells (rowL f) (i * 1001) W cs.toList (by simpa using h1) (by rw [rowL_len, Array.length_toList]; exact hin)
  have e1 : (cs.toList.take (i * 1001)).length = i * 1001 := by rw [List.length_take, Array.length_toList]; exact Nat.min_eq_left (Nat.le_trans (Nat.le_add_right _ _) hin)
  refine ⟨_, h4, ?_, fun j x hj hx => ?_⟩
  · rw [List.size_toArray, List.length_append, List.length_append, e1, rowL_len, List.length_drop, Array.length_toList, Nat.add_sub_cancel' hin]
    exact h2
  · rw [rowL_len]
    rw [List.getElem?_toArray]
    by_cases hji : j = i
    · subst hji
      rw [upd_same, List.append_assoc, List.getElem?_append_right (by omega), e1, List.getElem?_append_left (by rw [rowL_len]; omega), show j * 1001 + x - j * 1001 = x by omega, rowL_at _ hx]
    · rw [upd_other _ _ hji]
      have h5 := h3 j x hj hx
      rw [← Array.getElem?_toList] at h5
      rcases Nat.lt_or_gt_of_ne hji with hlt | hgt
      · rw [List.append_assoc, List.getElem?_append_left (by omega), List.getElem?_take_of_lt (by omega)]
        exact h5
      · have hge : i * 1001 + 1001 ≤ j * 1001 + x := Nat.le_trans (by rw [← Nat.succ_mul]; exact Nat.mul_le_mul_right _ hgt) (Nat.le_add_right _ _)
        refine (app3_right _ _ _ e1 (rowL_len f) hge).trans ?_
        refine List.getElem?_drop.trans ?_
        have e2 : i * 1001 + 1001 + (j * 1001 + x - (i * 1001 + 1001)) = j * 1001 + x := Nat.add_sub_cancel' hge
        rw [e2]
        exact h5
/-- A new row's block. -/
theorem Gd.new (W : World) (t : TypeId) (f : Row) (n : Nat) (hn : W.heap.size = n) : Gd (W.alloc (.cells (rowL f).toArray t)) n t 1 fun _ => f :=
  ⟨_, BK.new' _ _ _ _ hn, by simp [rowL_len], fun i h hi hh => by
    obtain rfl : i = 0 := by omega
    rw [Nat.zero_mul, Nat.zero_add, List.getElem?_toArray, rowL_at _ hh]⟩
theorem rowL_no : rowL noR = List.replicate 1001 (.int .i8 0) := by
  unfold rowL noR cel
  rw [List.map_const', List.length_range]
  rfl
theorem row_under : Try.prog.underlying 136 = some (.array 1001 134) := by kernel_rfl
theorem row_size : (Try.prog.info? 136).map (·.size) = some 1001 := by kernel_rfl
theorem i8_under : Try.prog.underlying 134 = some (.int .i8) := by kernel_rfl
theorem i8_cells : Try.prog.cellsOf 134 = 1 := by kernel_rfl
set_option maxRecDepth 20000 in
theorem row_zero' : (Try.prog.info? 136).map (fun i => (i.zero, i.size)) = some (some (.agg (Array.replicate 1001 (.int .i8 0))), 1001) := by kernel_rfl
theorem row_zero : (∀ w, (zeroValue 136).run Try.prog w = .ok (rowV noR) w) := by
  have := (zero_of_info row_zero').1
  unfold rowV
  rw [rowL_no]
  exact this
theorem rowL_one (f : Row) : (rowL f).toArray.all (·.oneCell') = true := by
  rw [List.all_toArray, List.all_eq_true]
  intro v hv
  simp only [rowL, List.mem_map] at hv
  obtain ⟨h, _, rfl⟩ := hv
  rfl
end Go.Proofs.Ytkibdciomheekaa
