/- The ratio in least terms, of the program and of the reference. The iterator over the pairs of points round a station. slope, best. height. IsTruth and IsStation. -/
import Derived.Test.YtbjmkmambmeifaaP1
import Derived.Deep.QuietTactic
import Derived.BigQuiet
import Derived.StillTailTactics
import Derived.Deep.DeepCutAuto
import Derived.Test.YtbjmkmambmeifaaP3
set_option linter.all false
set_option linter.unnecessarySimpa false
set_option linter.unusedSimpArgs false
set_option linter.unusedVariables false
set_option linter.unusedSectionVars false

namespace Go.Proofs.Ytbjmkmambmeifaa
open Go.RowKit

def frac (n d : Int) : Ra := ⟨n / (Int.gcd n d : Int), d / (Int.gcd n d : Int)⟩

theorem frac_num (n d : Int) (g : Nat) (hg : Int.gcd n d = g) : (frac n d).num = n.tdiv g := by
  subst hg; exact (Int.tdiv_eq_ediv_of_dvd (Int.gcd_dvd_left ..)).symm
theorem frac_den (n d : Int) (g : Nat) (hg : Int.gcd n d = g) : (frac n d).den = d.tdiv g := by
  subst hg; exact (Int.tdiv_eq_ediv_of_dvd (Int.gcd_dvd_right ..)).symm
theorem gcd_pos' (n d : Int) (h : 0 < d) : 0 < Int.gcd n d := Int.gcd_pos_of_ne_zero_right _ (by omega)
theorem tdiv_abs (n : Int) (g : Nat) : -(n.natAbs : Int) ≤ n.tdiv g ∧ n.tdiv g ≤ n.natAbs := by
  have := Int.natAbs_tdiv_le_natAbs n g
  omega

set_option maxHeartbeats 1000000 in
theorem least_pos (n d : Int) (w : World) (h0 : 0 ≤ n) (h2 : n ≤ 4611686018427387904) (h3 : 0 < d) (h4 : d ≤ 4611686018427387904) :
    Calls Try.prog 75 #[.int .i64 n, .int .i64 d] w fun e w' => e = .returned (.agg #[.int .i64 (frac n d).num, .int .i64 (frac n d).den]) ∧ Below w.heap.size w w' := by
  have hmx : ¬ n < -n := by omega
  go_enter Try.func75, Try.ntmps75
  go_wp2_with fail
  go_loopw [5, 6] (fun x y wr => ∃ a b : Nat, a ≤ 4611686018427387904 ∧ b ≤ 4611686018427387904 ∧ x = .int .i64 a ∧ y = .int .i64 b ∧ Hid (Nat.gcd a b = Int.gcd n d) ∧ ∃ m, wr = (w.alloc (.cells #[.int .i64 0, .int .i64 0] 25)).drewN m) (fun _ y _ => (intOf y).toNat)
  case atStart => exact ⟨n.toNat, d.toNat, by omega, by omega, by rw [Int.toNat_of_nonneg (by omega)], by rw [Int.toNat_of_nonneg (by omega)], Lib.hid (by show Nat.gcd _ _ = Nat.gcd n.natAbs d.natAbs; congr 1 <;> omega), 0, rfl⟩
  case round =>
    obtain ⟨a, b, ha, hb, rfl, rfl, hg, m, rfl⟩ := hrel
    by_cases hz : b = 0
    · subst hz
      have hga : Int.gcd n d = a := by rw [← hg.out, Nat.gcd_zero_right]
      have ha1 : 1 ≤ a := by rw [← hga]; exact gcd_pos' n d h3
      have HN := Lib.hid (frac_num n d a hga)
      have HD := Lib.hid (frac_den n d a hga)
      clear hga hg
      have haz : ((a : Int) == 0) = false := by simp; omega
      obtain ⟨t1, t2⟩ := tdiv_abs n a
      obtain ⟨t3, t4⟩ := tdiv_abs d a
      have tn : (n.natAbs : Int) ≤ 4611686018427387904 := by omega
      have td : (d.natAbs : Int) ≤ 4611686018427387904 := by omega
      go_wp2_with fail
      go_region
      all_goals
        go_wp2_with fail
        exact bodyPost_ret (v := .agg #[.int .i64 (frac n d).num, .int .i64 (frac n d).den]) (by rw [HN.out, HD.out]; simp [results, Try.results75, go_sem]) rfl ⟨rfl, by exact bel_of⟩
    · have hz1 : ((b : Int) == 0) = false := by simpa using hz
      have hz2 : ((b : Int) != 0) = true := by simpa using hz
      go_wp2_with fail
      go_quiet (fail)
      go_wp2_with fail
      go_roundw
      case rel => exact ⟨b, a % b, by omega, by have := Nat.mod_lt a (Nat.pos_of_ne_zero hz); omega, by first | rfl | go_num, by first | rfl | go_num, Lib.hid (by rw [Nat.gcd_comm, ← Nat.gcd_rec, Nat.gcd_comm]; exact hg.out), _, by first | rfl | exact World.drewN_drewN _ _ _⟩
      case measure => simp [intOf]; have := Nat.mod_lt a (Nat.pos_of_ne_zero hz); omega

set_option maxHeartbeats 1000000 in
theorem least_neg (n d : Int) (w : World) (h0 : n < 0) (h1 : -4611686018427387904 ≤ n) (h3 : 0 < d) (h4 : d ≤ 4611686018427387904) :
    Calls Try.prog 75 #[.int .i64 n, .int .i64 d] w fun e w' => e = .returned (.agg #[.int .i64 (frac n d).num, .int .i64 (frac n d).den]) ∧ Below w.heap.size w w' := by
  have hmx : n < -n := by omega
  go_enter Try.func75, Try.ntmps75
  go_wp2_with fail
  go_loopw [5, 6] (fun x y wr => ∃ a b : Nat, a ≤ 4611686018427387904 ∧ b ≤ 4611686018427387904 ∧ x = .int .i64 a ∧ y = .int .i64 b ∧ Hid (Nat.gcd a b = Int.gcd n d) ∧ ∃ m, wr = (w.alloc (.cells #[.int .i64 0, .int .i64 0] 25)).drewN m) (fun _ y _ => (intOf y).toNat)
  case atStart => exact ⟨(-n).toNat, d.toNat, by omega, by omega, by rw [Int.toNat_of_nonneg (by omega)], by rw [Int.toNat_of_nonneg (by omega)], Lib.hid (by show Nat.gcd _ _ = Nat.gcd n.natAbs d.natAbs; congr 1 <;> omega), 0, rfl⟩
  case round =>
    obtain ⟨a, b, ha, hb, rfl, rfl, hg, m, rfl⟩ := hrel
    by_cases hz : b = 0
    · subst hz
      have hga : Int.gcd n d = a := by rw [← hg.out, Nat.gcd_zero_right]
      have ha1 : 1 ≤ a := by rw [← hga]; exact gcd_pos' n d h3
      have HN := Lib.hid (frac_num n d a hga)
      have HD := Lib.hid (frac_den n d a hga)
      clear hga hg
      have haz : ((a : Int) == 0) = false := by simp; omega
      obtain ⟨t1, t2⟩ := tdiv_abs n a
      obtain ⟨t3, t4⟩ := tdiv_abs d a
      have tn : (n.natAbs : Int) ≤ 4611686018427387904 := by omega
      have td : (d.natAbs : Int) ≤ 4611686018427387904 := by omega
      go_wp2_with fail
      go_region
      all_goals
        go_wp2_with fail
        exact bodyPost_ret (v := .agg #[.int .i64 (frac n d).num, .int .i64 (frac n d).den]) (by rw [HN.out, HD.out]; simp [results, Try.results75, go_sem]) rfl ⟨rfl, by exact bel_of⟩
    · have hz1 : ((b : Int) == 0) = false := by simpa using hz
      have hz2 : ((b : Int) != 0) = true := by simpa using hz
      go_wp2_with fail
      go_quiet (fail)
      go_wp2_with fail
      go_roundw
      case rel => exact ⟨b, a % b, by omega, by have := Nat.mod_lt a (Nat.pos_of_ne_zero hz); omega, by first | rfl | go_num, by first | rfl | go_num, Lib.hid (by rw [Nat.gcd_comm, ← Nat.gcd_rec, Nat.gcd_comm]; exact hg.out), _, by first | rfl | exact World.drewN_drewN _ _ _⟩
      case measure => simp [intOf]; have := Nat.mod_lt a (Nat.pos_of_ne_zero hz); omega

theorem least_any (n d : Int) (w : World) (h1 : -4611686018427387904 ≤ n) (h2 : n ≤ 4611686018427387904) (h3 : 0 < d) (h4 : d ≤ 4611686018427387904) :
    Calls Try.prog 75 #[.int .i64 n, .int .i64 d] w fun e w' => e = .returned (.agg #[.int .i64 (frac n d).num, .int .i64 (frac n d).den]) ∧ Below w.heap.size w w' := by
  by_cases h : 0 ≤ n
  · exact least_pos n d w h h2 h3 h4
  · exact least_neg n d w (by omega) h1 h3 h4

set_option maxHeartbeats 1000000 in
theorem fraction_pos (n d : Int) (w : World) (h0 : 0 ≤ n) (h2 : n ≤ 4611686018427387904) (h3 : 0 < d) (h4 : d ≤ 4611686018427387904) :
    Calls Try.prog 73 #[.int .i64 n, .int .i64 d] w fun e w' => e = .returned (.agg #[.int .i64 (frac n d).num, .int .i64 (frac n d).den]) ∧ Below w.heap.size w w' := by
  have hmx : ¬ n < -n := by omega
  go_enter Try.func73, Try.ntmps73
  go_wp2_with fail
  go_loopw [5, 6] (fun x y wr => ∃ a b : Nat, a ≤ 4611686018427387904 ∧ b ≤ 4611686018427387904 ∧ x = .int .i64 a ∧ y = .int .i64 b ∧ Hid (Nat.gcd a b = Int.gcd n d) ∧ ∃ m, wr = (w.alloc (.cells #[.int .i64 0, .int .i64 0] 25)).drewN m) (fun _ y _ => (intOf y).toNat)
  case atStart => exact ⟨n.toNat, d.toNat, by omega, by omega, by rw [Int.toNat_of_nonneg (by omega)], by rw [Int.toNat_of_nonneg (by omega)], Lib.hid (by show Nat.gcd _ _ = Nat.gcd n.natAbs d.natAbs; congr 1 <;> omega), 0, rfl⟩
  case round =>
    obtain ⟨a, b, ha, hb, rfl, rfl, hg, m, rfl⟩ := hrel
    by_cases hz : b = 0
    · subst hz
      have hga : Int.gcd n d = a := by rw [← hg.out, Nat.gcd_zero_right]
      have ha1 : 1 ≤ a := by rw [← hga]; exact gcd_pos' n d h3
      have HN := Lib.hid (frac_num n d a hga)
      have HD := Lib.hid (frac_den n d a hga)
      clear hga hg
      have haz : ((a : Int) == 0) = false := by simp; omega
      obtain ⟨t1, t2⟩ := tdiv_abs n a
      obtain ⟨t3, t4⟩ := tdiv_abs d a
      have tn : (n.natAbs : Int) ≤ 4611686018427387904 := by omega
      have td : (d.natAbs : Int) ≤ 4611686018427387904 := by omega
      go_wp2_with fail
      go_region
      all_goals
        go_wp2_with fail
        exact bodyPost_ret (v := .agg #[.int .i64 (frac n d).num, .int .i64 (frac n d).den]) (by rw [HN.out, HD.out]; simp [results, Try.results73, go_sem]) rfl ⟨rfl, by exact bel_of⟩
    · have hz1 : ((b : Int) == 0) = false := by simpa using hz
      have hz2 : ((b : Int) != 0) = true := by simpa using hz
      go_wp2_with fail
      go_quiet (fail)
      go_wp2_with fail
      go_roundw
      case rel => exact ⟨b, a % b, by omega, by have := Nat.mod_lt a (Nat.pos_of_ne_zero hz); omega, by first | rfl | go_num, by first | rfl | go_num, Lib.hid (by rw [Nat.gcd_comm, ← Nat.gcd_rec, Nat.gcd_comm]; exact hg.out), _, by first | rfl | exact World.drewN_drewN _ _ _⟩
      case measure => simp [intOf]; have := Nat.mod_lt a (Nat.pos_of_ne_zero hz); omega

set_option maxHeartbeats 1000000 in
theorem fraction_neg (n d : Int) (w : World) (h0 : n < 0) (h1 : -4611686018427387904 ≤ n) (h3 : 0 < d) (h4 : d ≤ 4611686018427387904) :
    Calls Try.prog 73 #[.int .i64 n, .int .i64 d] w fun e w' => e = .returned (.agg #[.int .i64 (frac n d).num, .int .i64 (frac n d).den]) ∧ Below w.heap.size w w' := by
  have hmx : n < -n := by omega
  go_enter Try.func73, Try.ntmps73
  go_wp2_with fail
  go_loopw [5, 6] (fun x y wr => ∃ a b : Nat, a ≤ 4611686018427387904 ∧ b ≤ 4611686018427387904 ∧ x = .int .i64 a ∧ y = .int .i64 b ∧ Hid (Nat.gcd a b = Int.gcd n d) ∧ ∃ m, wr = (w.alloc (.cells #[.int .i64 0, .int .i64 0] 25)).drewN m) (fun _ y _ => (intOf y).toNat)
  case atStart => exact ⟨(-n).toNat, d.toNat, by omega, by omega, by rw [Int.toNat_of_nonneg (by omega)], by rw [Int.toNat_of_nonneg (by omega)], Lib.hid (by show Nat.gcd _ _ = Nat.gcd n.natAbs d.natAbs; congr 1 <;> omega), 0, rfl⟩
  case round =>
    obtain ⟨a, b, ha, hb, rfl, rfl, hg, m, rfl⟩ := hrel
    by_cases hz : b = 0
    · subst hz
      have hga : Int.gcd n d = a := by rw [← hg.out, Nat.gcd_zero_right]
      have ha1 : 1 ≤ a := by rw [← hga]; exact gcd_pos' n d h3
      have HN := Lib.hid (frac_num n d a hga)
      have HD := Lib.hid (frac_den n d a hga)
      clear hga hg
      have haz : ((a : Int) == 0) = false := by simp; omega
      obtain ⟨t1, t2⟩ := tdiv_abs n a
      obtain ⟨t3, t4⟩ := tdiv_abs d a
      have tn : (n.natAbs : Int) ≤ 4611686018427387904 := by omega
      have td : (d.natAbs : Int) ≤ 4611686018427387904 := by omega
      go_wp2_with fail
      go_region
      all_goals
        go_wp2_with fail
        exact bodyPost_ret (v := .agg #[.int .i64 (frac n d).num, .int .i64 (frac n d).den]) (by rw [HN.out, HD.out]; simp [results, Try.results73, go_sem]) rfl ⟨rfl, by exact bel_of⟩
    · have hz1 : ((b : Int) == 0) = false := by simpa using hz
      have hz2 : ((b : Int) != 0) = true := by simpa using hz
      go_wp2_with fail
      go_quiet (fail)
      go_wp2_with fail
      go_roundw
      case rel => exact ⟨b, a % b, by omega, by have := Nat.mod_lt a (Nat.pos_of_ne_zero hz); omega, by first | rfl | go_num, by first | rfl | go_num, Lib.hid (by rw [Nat.gcd_comm, ← Nat.gcd_rec, Nat.gcd_comm]; exact hg.out), _, by first | rfl | exact World.drewN_drewN _ _ _⟩
      case measure => simp [intOf]; have := Nat.mod_lt a (Nat.pos_of_ne_zero hz); omega

theorem fraction_any (n d : Int) (w : World) (h1 : -4611686018427387904 ≤ n) (h2 : n ≤ 4611686018427387904) (h3 : 0 < d) (h4 : d ≤ 4611686018427387904) :
    Calls Try.prog 73 #[.int .i64 n, .int .i64 d] w fun e w' => e = .returned (.agg #[.int .i64 (frac n d).num, .int .i64 (frac n d).den]) ∧ Below w.heap.size w w' := by
  by_cases h : 0 ≤ n
  · exact fraction_pos n d w h h2 h3 h4
  · exact fraction_neg n d w (by omega) h1 h3 h4
end Go.Proofs.Ytbjmkmambmeifaa

namespace Go.Proofs.Ytbjmkmambmeifaa
open Go.RowKit
attribute [local go_sem] Go.Oper.semAt_some

theorem pairs_any (p : Option Addr) (s : Int) (w : World) :
    Calls Try.prog 74 #[.pointer p, .int .i64 s] w fun e w' =>
      e = .returned (.func (.func 79) #[] #[.pointer (some ⟨w.heap.size, 0, none⟩), .pointer (some ⟨w.heap.size + 1, 0, none⟩)]) ∧
      (w.alloc (.cells #[.pointer p] 80)).alloc (.cells #[.int .i64 s] 3) = w' := by
  go_enter Try.func74, Try.ntmps74
  go_wp2
  go_ret
  exact ⟨rfl, rfl⟩

def PairsMem (c1 c2 : Nat) (vb : Value) (l : List St) (hs : List Int) (s : Nat) (W : World) : Prop :=
  W.cell? ⟨c1, 0, none⟩ = some vb ∧ W.cell? ⟨c2, 0, none⟩ = some (.int .i64 s) ∧ RB W vb l hs

/-- What the rounds of the iterator's own loops keep in mind: the box of yield, the boxes of the inner iterators. -/
def Box (W : World) (g : Nat) (t : TypeId) (v : Value) : Prop := W.heap[g]? = some (.cells #[v] t (0, 0))
def BoxP (W : World) (g : Nat) (l : List St) (hs : List Int) (k : Nat) : Prop :=
  W.heap[g]? = some (.cells #[.int .i64 (nthS l k).a, .int .i64 (nthS l k).lo, .int .i64 (nthS l k).hi, .int .i64 k, .int .i64 (nthI hs k)] 85 (0, 0))
theorem Box.cell {W : World} {g : Nat} {t : TypeId} {v : Value} (h : Box W g t v) : W.cell? ⟨g, 0, none⟩ = some v := cell_of_row W g 0 _ t (0, 0) h
theorem Box.frozen {W : World} {g : Nat} {t : TypeId} {v : Value} (h : Box W g t v) : W.frozen? ⟨g, 0, none⟩ = false := by
  unfold Box at h; simp [World.frozen?, h]
theorem Box.lt {W : World} {g : Nat} {t : TypeId} {v : Value} (h : Box W g t v) : g < W.heap.size := (Array.getElem?_eq_some_iff.1 h).1
theorem Box.adm {B : Nat} {W W' : World} {g : Nat} {t : TypeId} {v : Value} (h : Box W g t v) (ha : Adm B W W') : Box W' g t v := ha.cells h
theorem Box.kept {T : TypeId → Prop} {B : Nat} {W W' : World} {g : Nat} {t : TypeId} {v : Value} (h : Box W g t v) (hk : Kept T B W W') (hB : B ≤ g) (ht : ¬ T t) : Box W' g t v := hk.cells hB h ht
theorem Box.alloc {W : World} {g : Nat} {t : TypeId} {v : Value} (h : Box W g t v) (o : Obj) : Box (W.alloc o) g t v := (Below.heap_alloc W o g h.lt).trans h
theorem Box.new (W : World) (t : TypeId) (v : Value) : Box (W.alloc (.cells #[v] t)) W.heap.size t v := heap_alloc_new W _
theorem BoxP.adm {B : Nat} {W W' : World} {g : Nat} {l : List St} {hs : List Int} {k : Nat} (h : BoxP W g l hs k) (ha : Adm B W W') : BoxP W' g l hs k := ha.cells h
theorem BoxP.lt {W : World} {g : Nat} {l : List St} {hs : List Int} {k : Nat} (h : BoxP W g l hs k) : g < W.heap.size := (Array.getElem?_eq_some_iff.1 h).1
theorem BoxP.kept {T : TypeId → Prop} {B : Nat} {W W' : World} {g : Nat} {l : List St} {hs : List Int} {k : Nat} (h : BoxP W g l hs k) (hk : Kept T B W W') (hB : B ≤ g) (ht : ¬ T 85) : BoxP W' g l hs k := hk.cells hB h ht
theorem BoxP.alloc {W : World} {g : Nat} {l : List St} {hs : List Int} {k : Nat} (h : BoxP W g l hs k) (o : Obj) : BoxP (W.alloc o) g l hs k := (Below.heap_alloc W o g h.lt).trans h
theorem BoxP.cells {W : World} {g : Nat} {l : List St} {hs : List Int} {k : Nat} (h : BoxP W g l hs k) : W.cell? ⟨g, 0, none⟩ = some (.int .i64 (nthS l k).a) ∧ W.cell? ⟨g, 1, none⟩ = some (.int .i64 (nthS l k).lo) ∧
    W.cell? ⟨g, 2, none⟩ = some (.int .i64 (nthS l k).hi) ∧ W.cell? ⟨g, 3, none⟩ = some (.int .i64 k) ∧ W.cell? ⟨g, 4, none⟩ = some (.int .i64 (nthI hs k)) :=
  ⟨cell_of_row W g 0 _ _ (0, 0) h, cell_of_row W g 1 _ _ (0, 0) h, cell_of_row W g 2 _ _ (0, 0) h, cell_of_row W g 3 _ _ (0, 0) h, cell_of_row W g 4 _ _ (0, 0) h⟩

/-- The boxes that the iterator's own loops keep. -/
def Priv (lp g o s h : Nat) (X : World) : Prop :=
  Box X h 113 (.func (.yield lp) #[] #[]) ∧ Box X (h + 1) 80 (.pointer (some ⟨g, o, none⟩)) ∧ Box X (h + 1 + 1) 3 (.int .i64 s) ∧ Box X (h + 1 + 1 + 1) 4 (.bool false)
theorem Priv.adm {lp g o s h B : Nat} {X Y : World} (q : Priv lp g o s h X) (ha : Adm B X Y) : Priv lp g o s h Y := ⟨q.1.adm ha, q.2.1.adm ha, q.2.2.1.adm ha, q.2.2.2.adm ha⟩

set_option maxHeartbeats 4000000 in
theorem pairs_iter (T : TypeId → Prop) (hT1 : ¬ T 80) (hT2 : ¬ T 3) (hT3 : ¬ T 4) (hT4 : ¬ T 85) (hT5 : ¬ T 113)
    (c1 c2 : Nat) (vb : Value) (l : List St) (hs : List Int) (s : Nat) (hl : l.length ≤ 1000) (hs1 : s < l.length) :
    Iter Try.prog 79 #[.pointer (some ⟨c1, 0, none⟩), .pointer (some ⟨c2, 0, none⟩)]
      (fun t => #[ptV l hs (t / (l.length - (s + 1))), ptV l hs (s + 1 + t % (l.length - (s + 1)))]) (s * (l.length - (s + 1))) (PairsMem c1 c2 vb l hs s) T := by
  intro lp J Jx W hJ hJx hR hY h0
  obtain ⟨⟨k1, k2, g, o, vs, vh, rfl, k4, k5, k6, k7, k8⟩, hz0⟩ := hR 0 W h0
  have hc1 : c1 < W.heap.size := World.block_lt_of_cell? W _ k1
  have hc2 : c2 < W.heap.size := World.block_lt_of_cell? W _ k2
  clear k4 k5 k6 k7 hz0
  obtain ⟨m, hm⟩ : ∃ m, l.length - (s + 1) = m := ⟨_, rfl⟩
  rw [hm] at hY ⊢
  refine calls_of_wp_marks Try.func79 rfl ?_
  simp only [Try.ntmps79, List.size_toArray, List.length_cons, List.length_nil, Nat.reduceAdd, Nat.reduceSub, Array.replicate_succ, Array.replicate_zero, List.push_toArray, List.append_toArray, List.nil_append, List.cons_append]
  go_wp2_with fail
  refine (others_any _ _ _ _).mono ?_
  rintro e w1 ⟨rfl, rfl⟩
  go_wp2_with fail
  have hpB : ∀ x y : Value, True := fun _ _ => trivial
  clear hpB
  obtain ⟨h, hh⟩ : ∃ h, W.heap.size = h := ⟨_, rfl⟩
  have hB0 : Below W.heap.size W ((((W.alloc (.cells #[.func (.yield lp) #[] #[]] 113)).alloc (.cells #[.pointer (some ⟨g, o, none⟩)] 80)).alloc (.cells #[.int .i64 s] 3)).alloc (.cells #[.bool false] 4)) := by exact bel_of
  have p1 := (((Box.new W 113 (.func (.yield lp) #[] #[])).alloc (.cells #[.pointer (some ⟨g, o, none⟩)] 80)).alloc (.cells #[.int .i64 s] 3)).alloc (.cells #[.bool false] 4)
  have p2 := ((Box.new (W.alloc (.cells #[.func (.yield lp) #[] #[]] 113)) 80 (.pointer (some ⟨g, o, none⟩))).alloc (.cells #[.int .i64 s] 3)).alloc (.cells #[.bool false] 4)
  have p3 := (Box.new ((W.alloc (.cells #[.func (.yield lp) #[] #[]] 113)).alloc (.cells #[.pointer (some ⟨g, o, none⟩)] 80)) 3 (.int .i64 s)).alloc (.cells #[.bool false] 4)
  have p4 := Box.new (((W.alloc (.cells #[.func (.yield lp) #[] #[]] 113)).alloc (.cells #[.pointer (some ⟨g, o, none⟩)] 80)).alloc (.cells #[.int .i64 s] 3)) 4 (.bool false)
  have hS : ((((W.alloc (.cells #[.func (.yield lp) #[] #[]] 113)).alloc (.cells #[.pointer (some ⟨g, o, none⟩)] 80)).alloc (.cells #[.int .i64 s] 3)).alloc (.cells #[.bool false] 4)).heap.size = h + 4 := by simp [hh]
  simp only [World.size_alloc, hh] at p1 p2 p3 p4
  rw [hh]
  obtain ⟨W0, hW0⟩ : ∃ W0, (((W.alloc (.cells #[.func (.yield lp) #[] #[]] 113)).alloc (.cells #[.pointer (some ⟨g, o, none⟩)] 80)).alloc (.cells #[.int .i64 s] 3)).alloc (.cells #[.bool false] 4) = W0 := ⟨_, rfl⟩
  rw [hW0] at p1 p2 p3 p4 hS hB0 ⊢
  clear hW0
  have hJ0 : J 0 W0 := hJ 0 _ _ h0 (Adm.below hB0)
  refine wp_range (gf := 78) (lb := #[.pointer (some ⟨h + 1, 0, none⟩), .pointer (some ⟨h + 1 + 1, 0, none⟩), .pointer (some ⟨h + 1 + 1 + 1, 0, none⟩)]) rfl eg78
    (before_iter T (h + 1) (h + 1 + 1) (h + 1 + 1 + 1) (.pointer (some ⟨g, o, none⟩)) l hs s hl hs1) (fun _ => rfl)
    (fun i X => J (i * m) X ∧ Priv lp g o s h X)
    (fun c i X => c = .ret ∧ ∃ t, t < s * m ∧ Jx t X)
    (fun i a' X => (J (i * m) X ∧ Priv lp g o s h X) ∧ ∃ bx, W0.heap.size ≤ bx ∧ BoxP X bx l hs i ∧ a' = { tmps := #[.func (.yield lp) #[] #[], .pointer (some ⟨c1, 0, none⟩), .pointer (some ⟨c2, 0, none⟩), .pointer (some ⟨h, 0, none⟩), .pointer (some ⟨bx, 0, none⟩), undef,
      .pointer (some ⟨g, o, none⟩), .int .i64 s, .func (.func 78) #[] #[.pointer (some ⟨h + 1, 0, none⟩), .pointer (some ⟨h + 1 + 1, 0, none⟩), .pointer (some ⟨h + 1 + 1 + 1, 0, none⟩)], ptV l hs i, undef, undef, undef, undef, undef, undef, undef, undef, undef], defers := [] })
    ?rounds ?mem ?start ?done ?stop
  case mem =>
    rintro i X ⟨hj, q1, q2, q3, q4⟩
    exact ⟨q2.cell, q3.cell, q4.cell, (hR _ _ hj).1.2.2⟩
  case start => exact ⟨by simpa using hJ0, p1, p2, p3, p4⟩
  case done =>
    rintro D X hD ⟨hj, _⟩ hK
    refine leave1n hK (results_none rfl _ _ _) ⟨⟨_, rfl⟩, .inl ?_⟩
    exact hJ _ _ _ hj (Adm.put _ (by omega) hK rfl)
  case stop =>
    rintro D c i X hD hi ⟨rfl, t, ht, hj⟩ hK
    refine wp_ret (leave1 hK (results_none rfl _ _ _) ⟨⟨_, rfl⟩, .inr ⟨t, ht, ?_⟩⟩)
    exact hJx _ _ _ hj (Adm.put _ (by omega) hK rfl)
  case rounds =>
    refine ⟨?_, ?_, ?_, ?_, ?_, ?_⟩
    · rintro i A A' ⟨h1, h2⟩ ha
      exact ⟨hJ _ _ _ h1 (ha.more (by omega)), h2.adm ha⟩
    · rintro c i A A' ⟨h1, t, ht, h2⟩ ha
      exact ⟨h1, t, ht, hJx _ _ _ h2 (ha.more (by omega))⟩
    · rintro i a A A' ⟨⟨h1, h2⟩, bx, h3, h4, h5⟩ ha
      exact ⟨⟨hJ _ _ _ h1 (ha.more (by omega)), h2.adm ha⟩, bx, h3, h4.adm ha, h5⟩
    · rintro i A ⟨_, _, _, _, h4⟩
      have := h4.lt; omega
    · rintro lq i A hi ⟨hj, hp⟩ K hK
      have hsz : W0.heap.size ≤ A.heap.size := by have := hp.2.2.2.lt; omega
      have hb1 : Below A.heap.size A (A.alloc (.cells #[.int .i64 (nthS l i).a, .int .i64 (nthS l i).lo, .int .i64 (nthS l i).hi, .int .i64 i, .int .i64 (nthI hs i)] 85)) := by exact bel_of
      have hA := Adm.below (B := W0.heap.size) hb1
      have hK2 := hK _ (A.alloc (.cells #[.int .i64 (nthS l i).a, .int .i64 (nthS l i).lo, .int .i64 (nthS l i).hi, .int .i64 i, .int .i64 (nthI hs i)] 85)) ((Kept.refl _ _ _).below hb1)
        ⟨⟨hJ _ _ _ hj (hA.more (by omega)), hp.adm hA⟩, A.heap.size, hsz, heap_alloc_new A _, rfl⟩
      have HK := Lib.hid hK2; clear hK2 hK hj
      unfold ptV
      gi_wp2_with fail
      exact HK.out
    · rintro lq i a' A hi hlq ⟨r, hr⟩ ⟨⟨hj, hp⟩, bx, hbx, hbP, rfl⟩
      obtain ⟨⟨n1, n2, n3⟩, hz⟩ := hR _ _ hj
      have hsz : W0.heap.size ≤ A.heap.size := by have := hp.2.2.2.lt; omega
      have hc1' : c1 < A.heap.size := by omega
      have hc2' : c2 < A.heap.size := by omega
      gi_wp2_with fail
      refine ⟨trivial, CallsIn.inRound lq (CallsIn.mono (callsIn_wide.2 (others_any _ _ _ _)) ?_)⟩
      rintro e w1 ⟨rfl, rfl⟩
      gi_wp2_with fail
      have hb1 : Below A.heap.size A (((A.alloc (.cells #[.pointer (some ⟨g, o, none⟩)] 80)).alloc (.cells #[.int .i64 s] 3)).alloc (.cells #[.bool true] 4)) := by exact bel_of
      have q1 := ((Box.new A 80 (.pointer (some ⟨g, o, none⟩))).alloc (.cells #[.int .i64 s] 3)).alloc (.cells #[.bool true] 4)
      have q2 := (Box.new (A.alloc (.cells #[.pointer (some ⟨g, o, none⟩)] 80)) 3 (.int .i64 s)).alloc (.cells #[.bool true] 4)
      have q3 := Box.new ((A.alloc (.cells #[.pointer (some ⟨g, o, none⟩)] 80)).alloc (.cells #[.int .i64 s] 3)) 4 (.bool true)
      have hS2 : (((A.alloc (.cells #[.pointer (some ⟨g, o, none⟩)] 80)).alloc (.cells #[.int .i64 s] 3)).alloc (.cells #[.bool true] 4)).heap.size = A.heap.size + 3 := by simp
      simp only [World.size_alloc] at q1 q2 q3
      obtain ⟨A2, hA2⟩ : ∃ A2, ((A.alloc (.cells #[.pointer (some ⟨g, o, none⟩)] 80)).alloc (.cells #[.int .i64 s] 3)).alloc (.cells #[.bool true] 4) = A2 := ⟨_, rfl⟩
      rw [hA2] at q1 q2 q3 hS2 hb1 ⊢
      clear hA2
      have hA := Adm.below (B := W0.heap.size) hb1
      have hr2 : A2.heap[lq]? = some (.loop r) := (hb1.block lq (Array.getElem?_eq_some_iff.1 hr).1).trans hr
      have hKA : Kept T W0.heap.size A A2 := (Kept.refl _ _ _).below hb1
      have hm' : s + 1 + m = l.length := by omega
      refine wp_range_in hr2 (gf := 78) (lb := #[.pointer (some ⟨A.heap.size, 0, none⟩), .pointer (some ⟨A.heap.size + 1, 0, none⟩), .pointer (some ⟨A.heap.size + 1 + 1, 0, none⟩)]) rfl eg78
        (behind_iter T A.heap.size (A.heap.size + 1) (A.heap.size + 1 + 1) (.pointer (some ⟨g, o, none⟩)) l hs s hl hs1) (fun _ => rfl)
        (fun k X => J (i * m + k) X ∧ Priv lp g o s h X ∧ BoxP X bx l hs i ∧ (Box X A.heap.size 80 (.pointer (some ⟨g, o, none⟩)) ∧ Box X (A.heap.size + 1) 3 (.int .i64 s) ∧ Box X (A.heap.size + 1 + 1) 4 (.bool true)) ∧ Kept T W0.heap.size A X)
        (fun c k X => c = .ret ∧ (∃ t, t < s * m ∧ Jx t X) ∧ Kept T W0.heap.size A X)
        (fun k a' X => (J (i * m + k) X ∧ Priv lp g o s h X ∧ BoxP X bx l hs i ∧ (Box X A.heap.size 80 (.pointer (some ⟨g, o, none⟩)) ∧ Box X (A.heap.size + 1) 3 (.int .i64 s) ∧ Box X (A.heap.size + 1 + 1) 4 (.bool true)) ∧ Kept T W0.heap.size A X) ∧
          ∃ bx2, A2.heap.size ≤ bx2 ∧ BoxP X bx2 l hs (s + 1 + k) ∧ a' = { tmps := #[.func (.yield lp) #[] #[], .pointer (some ⟨c1, 0, none⟩), .pointer (some ⟨c2, 0, none⟩), .pointer (some ⟨h, 0, none⟩), .pointer (some ⟨bx, 0, none⟩), .pointer (some ⟨bx2, 0, none⟩),
          .pointer (some ⟨g, o, none⟩), .int .i64 s, .func (.func 78) #[] #[.pointer (some ⟨h + 1, 0, none⟩), .pointer (some ⟨h + 1 + 1, 0, none⟩), .pointer (some ⟨h + 1 + 1 + 1, 0, none⟩)], ptV l hs i,
          .pointer (some ⟨g, o, none⟩), .int .i64 s, .func (.func 78) #[] #[.pointer (some ⟨A.heap.size, 0, none⟩), .pointer (some ⟨A.heap.size + 1, 0, none⟩), .pointer (some ⟨A.heap.size + 1 + 1, 0, none⟩)], ptV l hs (s + 1 + k), undef, undef, undef, undef, undef], defers := [] })
        ?rounds2 ?mem2 ?start2 ?done2 ?stop2
      case mem2 =>
        rintro k X ⟨hj', _, _, ⟨z1, z2, z3⟩, _⟩
        exact ⟨z1.cell, z2.cell, z3.cell, (hR _ _ hj').1.2.2⟩
      case start2 =>
        exact ⟨by simpa using hJ _ _ _ hj (hA.more (by omega)), hp.adm hA, hbP.adm hA, ⟨q1, q2, q3⟩, hKA⟩
      case done2 =>
        rintro X ⟨hj', hp', _, _, hk'⟩
        gi_wp2_with fail
        rw [hm, ← Nat.succ_mul] at hj'
        exact ⟨hk', hj', hp'⟩
      case stop2 =>
        rintro c k X hk ⟨rfl, hx, hk'⟩
        gi_wp2_with fail
        exact ⟨hk', rfl, hx⟩
      case rounds2 =>
        rw [hm]
        refine ⟨?_, ?_, ?_, ?_, ?_, ?_⟩
        · rintro k X Y ⟨h1, h2, h3, ⟨h4, h5, h6⟩, h7⟩ ha
          exact ⟨hJ _ _ _ h1 (ha.more (by omega)), h2.adm ha, h3.adm ha, ⟨h4.adm ha, h5.adm ha, h6.adm ha⟩, h7.adm ha (by omega)⟩
        · rintro c k X Y ⟨h1, ⟨t, ht, h2⟩, h7⟩ ha
          exact ⟨h1, ⟨t, ht, hJx _ _ _ h2 (ha.more (by omega))⟩, h7.adm ha (by omega)⟩
        · rintro k a X Y ⟨⟨h1, h2, h3, ⟨h4, h5, h6⟩, h7⟩, bx2, e1, e2, e3⟩ ha
          exact ⟨⟨hJ _ _ _ h1 (ha.more (by omega)), h2.adm ha, h3.adm ha, ⟨h4.adm ha, h5.adm ha, h6.adm ha⟩, h7.adm ha (by omega)⟩, bx2, e1, e2.adm ha, e3⟩
        · rintro k X ⟨_, _, _, ⟨_, _, h6⟩, _⟩
          have := h6.lt; omega
        · rintro lq2 k X hk ⟨h1, h2, h3, ⟨h4, h5, h6⟩, h7⟩ K hK
          have hsz2 : A2.heap.size ≤ X.heap.size := by have := h6.lt; omega
          have hb2 : Below X.heap.size X (X.alloc (.cells #[.int .i64 (nthS l (s + 1 + k)).a, .int .i64 (nthS l (s + 1 + k)).lo, .int .i64 (nthS l (s + 1 + k)).hi, .int .i64 ((s + 1 + k : Nat) : Int), .int .i64 (nthI hs (s + 1 + k))] 85)) := by exact bel_of
          have ha := Adm.below (B := A2.heap.size) hb2
          have hK2 := hK _ (X.alloc (.cells #[.int .i64 (nthS l (s + 1 + k)).a, .int .i64 (nthS l (s + 1 + k)).lo, .int .i64 (nthS l (s + 1 + k)).hi, .int .i64 ((s + 1 + k : Nat) : Int), .int .i64 (nthI hs (s + 1 + k))] 85)) ((Kept.refl _ _ _).below hb2)
            ⟨⟨hJ _ _ _ h1 (ha.more (by omega)), h2.adm ha, h3.adm ha, ⟨h4.adm ha, h5.adm ha, h6.adm ha⟩, h7.adm ha (by omega)⟩, X.heap.size, hsz2, heap_alloc_new X _, rfl⟩
          have HK := Lib.hid hK2; clear hK2 hK h1
          have hcast : ((s + 1 + k : Nat) : Int) = (s : Int) + 1 + (k : Int) := by omega
          unfold ptV at HK ⊢
          rw [hcast] at HK ⊢
          gi_wp2_with fail
          exact HK.out
        · rintro lq2 k a' X hk hlq2 _ ⟨⟨h1, h2, h3, ⟨h4, h5, h6⟩, h7⟩, bx2, e1, e2, rfl⟩
          have y1 := h2.1.cell
          obtain ⟨x1, x2, x3, x4, x5⟩ := h3.cells
          obtain ⟨z1, z2, z3, z4, z5⟩ := e2.cells
          have ei : (i * m + k) / m = i := by rw [Nat.mul_comm, Nat.mul_add_div (by omega), Nat.div_eq_of_lt hk, Nat.add_zero]
          have ek : (i * m + k) % m = k := by rw [Nat.mul_comm, Nat.mul_add_mod, Nat.mod_eq_of_lt hk]
          have hlt : i * m + k < s * m := by
            have := Nat.mul_le_mul_right m (show i + 1 ≤ s by omega)
            rw [Nat.succ_mul] at this; omega
          obtain ⟨fn, tmps, assign, body, hy, hRd⟩ := hY (i * m + k) X 97 hlt h1
          rw [ei, ek] at hy
          clear ei ek hm hm'
          have hcast : ((s + 1 + k : Nat) : Int) = (s : Int) + 1 + (k : Int) := by omega
          unfold ptV at hy ⊢
          rw [hcast] at z4 hy
          clear hcast
          gi_wp2_with fail
          refine RoundIn.mono (RoundIn.any hRd) ?_
          have HF := Lib.hid hz
          clear hRd hy x1 x2 x3 x4 x5 z1 z2 z3 z4 z5 y1 hb1 hr hr2 hY hR
          rintro e W3 (⟨rfl, g1, g2⟩ | ⟨rfl, g1, g2⟩)
          · have G1 := Lib.hid g1
            have G2 := Lib.hid g2
            clear g1 g2
            gi_wp2_with fail
            have g2 := G2.out
            have g3 : Kept T W0.heap.size X W3 := g2.more (by omega)
            refine ⟨g2.more (by omega), ?_, ⟨h2.1.kept g2 (by omega) hT5, h2.2.1.kept g2 (by omega) hT1, h2.2.2.1.kept g2 (by omega) hT2, h2.2.2.2.kept g2 (by omega) hT3⟩,
              h3.kept g2 (by omega) hT4, ⟨h4.kept g2 (by omega) hT1, h5.kept g2 (by omega) hT2, h6.kept g2 (by omega) hT3⟩, h7.trans g3⟩
            exact G1.out
          · have G1 := Lib.hid g1
            have G2 := Lib.hid g2
            clear g1 g2
            gi_wp2_with fail
            have g2 := G2.out
            exact ⟨g2.more (by omega), rfl, ⟨_, hlt, G1.out⟩, h7.trans (g2.more (by omega))⟩
end Go.Proofs.Ytbjmkmambmeifaa

namespace Go.Proofs.Ytbjmkmambmeifaa
open Go.RowKit
attribute [local go_sem] Go.Oper.semAt_some

theorem frac_bounds (n d : Int) (h : 0 < d) : -(n.natAbs : Int) ≤ (frac n d).num ∧ (frac n d).num ≤ n.natAbs ∧ 0 < (frac n d).den ∧ (frac n d).den ≤ d := by
  have hg := gcd_pos' n d h
  have h1 := frac_num n d _ rfl
  have h2 := frac_den n d _ rfl
  obtain ⟨t1, t2⟩ := tdiv_abs n (Int.gcd n d)
  obtain ⟨t3, t4⟩ := tdiv_abs d (Int.gcd n d)
  have hd : 0 < (frac n d).den := by
    unfold frac
    exact Int.ediv_pos_of_pos_of_dvd h (by omega) (Int.gcd_dvd_right ..)
  refine ⟨by omega, by omega, hd, by omega⟩

theorem slope_any (p0 p1 p2 p3 p4 q0 q1 q2 q3 q4 : Int) (w : World) (h1 : -2000000 ≤ p0) (h2 : p0 < q0) (h3 : q0 ≤ 2000000) (h4 : -2000000 ≤ p4) (h5 : p4 ≤ 2000000) (h6 : -2000000 ≤ q4) (h7 : q4 ≤ 2000000) :
    Calls Try.prog 69 #[.agg #[.int .i64 p0, .int .i64 p1, .int .i64 p2, .int .i64 p3, .int .i64 p4], .agg #[.int .i64 q0, .int .i64 q1, .int .i64 q2, .int .i64 q3, .int .i64 q4]] w fun e w' =>
      e = .returned (.agg #[.int .i64 (frac (q4 - p4) (q0 - p0)).num, .int .i64 (frac (q4 - p4) (q0 - p0)).den]) ∧ Below w.heap.size w w' := by
  go_enter Try.func69, Try.ntmps69
  go_wp2_with fail
  refine (least_any _ _ _ (by omega) (by omega) (by omega) (by omega)).mono ?_
  rintro e w1 ⟨rfl, hb⟩
  obtain ⟨hc, hf⟩ := Below.rules hb
  have hz := hb.size
  simp at hz
  have hbb := (Below.trans (a := w) (B := w.heap.size) (by exact bel_of) (hb.mono (by first | omega | (simp; omega) | (simp; done))))
  go_wp2_with fail
  exact bodyPost_ret (v := .agg #[.int .i64 (frac (q4 - p4) (q0 - p0)).num, .int .i64 (frac (q4 - p4) (q0 - p0)).den]) (by simp [results, Try.results69, go_sem, hc]) rfl ⟨rfl, by exact bel_of⟩

/-- The best element of a list: the first one of several. -/
def bestF (bf : Ra → Ra → Bool) (l : List Ra) : Ra := match l with
  | [] => ⟨0, 0⟩
  | x :: t => t.foldl (fun o y => if bf y o then y else o) x
theorem bestF_snoc (bf : Ra → Ra → Bool) (l : List Ra) (y : Ra) (h : l ≠ []) : bestF bf (l ++ [y]) = if bf y (bestF bf l) then y else bestF bf l := by
  cases l with
  | nil => exact absurd rfl h
  | cons x t =>
    show List.foldl _ x (t ++ [y]) = _
    rw [List.foldl_append]; rfl
theorem bestF_take (bf : Ra → Ra → Bool) (l : List Ra) (k : Nat) (h0 : 0 < k) (hk : k < l.length) : bestF bf (l.take (k + 1)) = if bf (nthR l k) (bestF bf (l.take k)) then nthR l k else bestF bf (l.take k) := by
  rw [List.take_succ_eq_append_getElem hk, bestF_snoc]
  · have : l[k] = nthR l k := by unfold nthR; rw [List.getD_eq_getElem?_getD, List.getElem?_eq_getElem hk]; rfl
    rw [this]
  · intro e
    have h1 : (l.take k).length = 0 := by rw [e]; rfl
    rw [List.length_take] at h1; omega

set_option maxHeartbeats 1000000 in
theorem best_any (f : Nat) (bf : Ra → Ra → Bool) (eg : ∀ args w, (callFunc f args).run Try.prog w = .ok (.enter f args) w)
    (hf : ∀ a b c d w, Calls Try.prog f #[.agg #[.int .i64 a, .int .i64 b], .agg #[.int .i64 c, .int .i64 d]] w fun e w' => e = .returned (.bool (bf ⟨a, b⟩ ⟨c, d⟩)) ∧ Below w.heap.size w w')
    (l : List Ra) (v : Value) (w : World) (hl : 0 < l.length) (hl1 : l.length ≤ 1000) (h : RRa w w.heap.size v l) :
    Calls Try.prog 72 #[v, .func (.func f) #[] #[]] w fun e w' => e = .returned (.agg #[.int .i64 (bestF bf l).num, .int .i64 (bestF bf l).den]) ∧ Below w.heap.size w w' := by
  obtain ⟨A, cap, b, off, rfl, hA, hc⟩ := h.cells
  obtain ⟨rfl, hb⟩ := hA (by omega)
  obtain ⟨c0, c1⟩ := hc 0 hl
  simp only [Nat.zero_mul, Nat.add_zero] at c0 c1
  have hcap := h.cap.2
  have HC := Lib.hid hc; clear hc hA
  obtain ⟨off2, HO, hsl⟩ : ∃ o2, Hid (∀ k, k + 1 < l.length → o2 + k * 2 = off + (k + 1) * 2) ∧ (∀ W, Sem.run Try.prog (Instr.sliceAt 26 (.slice (some ⟨b, off, none⟩) l.length cap) (some (.int .i64 1)) none none) W = .ok (.slice (some ⟨b, o2, none⟩) (l.length - 1) (cap - 1)) W) := by
    by_cases h1 : cap = 1
    · exact ⟨off, Lib.hid (fun k hk => by omega), fun W => by
        subst h1
        have e1 : l.length = 1 := by omega
        rw [e1]
        go_simp⟩
    · exact ⟨off + 2, Lib.hid (fun k hk => by omega), fun W => by
        have e1 : ¬ (l.length : Int) < 1 := by omega
        go_simp⟩
  have B0 : BK ((w.alloc (.cells #[.int .i64 0, .int .i64 0] 25)).alloc (.cells #[.int .i64 (nthR l 0).num, .int .i64 (nthR l 0).den] 25)) w.heap.size #[.int .i64 0, .int .i64 0] 25 := (BK.new w _ _).alloc _
  have B1 : BK ((w.alloc (.cells #[.int .i64 0, .int .i64 0] 25)).alloc (.cells #[.int .i64 (nthR l 0).num, .int .i64 (nthR l 0).den] 25)) (w.heap.size + 1) #[.int .i64 (nthR l 0).num, .int .i64 (nthR l 0).den] 25 := by
    have := BK.new (w.alloc (.cells #[.int .i64 0, .int .i64 0] 25)) #[.int .i64 (nthR l 0).num, .int .i64 (nthR l 0).den] 25
    rwa [World.size_alloc] at this
  have HB0 := Lib.hid B0
  have HB1 := Lib.hid B1
  have hb1 : bestF bf (l.take 1) = nthR l 0 := by
    cases l with
    | nil => simp at hl
    | cons x t => rfl
  have HBF := Lib.hid hb1
  clear B0 B1 hb1
  go_enter Try.func72, Try.ntmps72
  go_wp2_with fail
  clear hsl
  go_loopw [14] (fun i wr => ∃ k : Nat, k + 1 ≤ l.length ∧ i = .int .i64 k ∧ Below w.heap.size w wr ∧ BK wr w.heap.size #[.int .i64 0, .int .i64 0] 25 ∧
    BK wr (w.heap.size + 1) #[.int .i64 (bestF bf (l.take (k + 1))).num, .int .i64 (bestF bf (l.take (k + 1))).den] 25) (fun i _ => l.length - (intOf i).toNat)
  case atStart => exact ⟨0, hl, rfl, by exact bel_of, HB0.out, by rw [HBF.out]; exact HB1.out⟩
  case round =>
    obtain ⟨k, hk, rfl, hbw, b0, b1⟩ := hrel
    have y0 := b1.cell 0
    have y1 := b1.cell 1
    have f0 := b1.frozen 0
    have f1 := b1.frozen 1
    have z0 := b0.cell 0
    have z1 := b0.cell 1
    have g0 := b0.frozen 0
    have g1 := b0.frozen 1
    have hsz := b1.lt
    simp at y0 y1 z0 z1
    by_cases hlt : k + 1 < l.length
    · have hcell := HC.out (k + 1) hlt
      rw [← HO.out k hlt, ← hbw.cell (by exact hb), ← hbw.cell (by exact hb)] at hcell
      obtain ⟨d0, d1⟩ := hcell
      have hi : (k : Int) < ((l.length - 1 : Nat) : Int) := by omega
      have hbw' : b < wr.heap.size := by omega
      have HT := Lib.hid (bestF_take bf l (k + 1) (by omega) hlt)
      go_wp2_with fail
      refine (hf _ _ _ _ _).mono ?_
      rintro e w1 ⟨rfl, hw1⟩
      obtain ⟨r1, r2⟩ := Below.rules hw1
      have hz1 := hw1.size
      simp at hz1
      have hB1 : Below w.heap.size w w1 := Below.trans (a := w) (B := w.heap.size) (by exact bel_of) (hw1.mono (by simp; omega))
      have b0' := (b0.alloc (.cells #[.int .i64 (nthR l (k + 1)).num, .int .i64 (nthR l (k + 1)).den] 25)).below hw1 (by simp; omega)
      have b1' := (b1.alloc (.cells #[.int .i64 (nthR l (k + 1)).num, .int .i64 (nthR l (k + 1)).den] 25)).below hw1 (by simp; omega)
      have y0 := b1'.cell 0
      have y1 := b1'.cell 1
      have f0 := b1'.frozen 0
      have f1 := b1'.frozen 1
      have z0 := b0'.cell 0
      have z1 := b0'.cell 1
      have g0 := b0'.frozen 0
      have g1 := b0'.frozen 1
      simp at y0 y1 z0 z1
      have bn := (BK.new wr #[.int .i64 (nthR l (k + 1)).num, .int .i64 (nthR l (k + 1)).den] 25).below hw1 (by simp)
      have n0 := bn.cell 0
      have n1 := bn.cell 1
      simp at n0 n1
      clear hw1 r1 r2
      cases hbf : bf (nthR l (k + 1)) (bestF bf (l.take (k + 1))) with
      | true =>
        go_wp2_with fail
        go_roundw
        case rel => exact ⟨k + 1, by omega, by go_num, by exact bel_of, by (repeat (first | assumption | (refine BK.alloc ?_ _) | (refine BK.drew ?_) | (refine BK.drewN ?_ _) | (refine BK.far ?_ (by first | omega | (simp; omega) | (simp; done)) _))), by rw [HT.out, hbf]; exact (b1'.set 0 _).set 1 _⟩
        case measure => simp [intOf]; omega
      | false =>
        go_wp2_with fail
        go_roundw
        case rel => exact ⟨k + 1, by omega, by go_num, by exact bel_of, by (repeat (first | assumption | (refine BK.alloc ?_ _) | (refine BK.drew ?_) | (refine BK.drewN ?_ _) | (refine BK.far ?_ (by first | omega | (simp; omega) | (simp; done)) _))), by rw [HT.out, hbf]; exact b1'⟩
        case measure => simp [intOf]; omega
    · have hi : ¬ (k : Int) < ((l.length - 1 : Nat) : Int) := by omega
      have ek : k + 1 = l.length := by omega
      have HE := Lib.hid ek; clear ek
      go_wp2_with fail
      have el : l.take (k + 1) = l := by rw [HE.out, List.take_length]
      rw [el] at y0 y1 b1
      rw [el]
      exact bodyPost_ret (v := .agg #[.int .i64 (bestF bf l).num, .int .i64 (bestF bf l).den]) (by simp [results, Try.results72, go_sem, z0, z1]) rfl ⟨rfl, by exact bel_of⟩
end Go.Proofs.Ytbjmkmambmeifaa

namespace Go.Proofs.Ytbjmkmambmeifaa
open Go.RowKit

/-- The j-th name of a list. -/
def nm (L : List Nat) (j : Nat) : Nat := L.getD j 0
theorem OwnP.cellsN {W : World} {base : Nat} {v : Value} {l : List St} {hs : List Int} {L : List Nat} (h : OwnP W base v l hs L) (h0 : 0 < L.length) : ∃ g cap, v = .slice (some ⟨g, 0, none⟩) L.length cap ∧ g < W.heap.size ∧ L.length ≤ cap ∧
    ∀ j, j < L.length → W.cell? ⟨g, j * 5, none⟩ = some (.int .i64 (nthS l (nm L j)).a) ∧ W.cell? ⟨g, j * 5 + 1, none⟩ = some (.int .i64 (nthS l (nm L j)).lo) ∧ W.cell? ⟨g, j * 5 + 2, none⟩ = some (.int .i64 (nthS l (nm L j)).hi) ∧
      W.cell? ⟨g, j * 5 + 3, none⟩ = some (.int .i64 (nm L j : Nat)) ∧ W.cell? ⟨g, j * 5 + 4, none⟩ = some (.int .i64 (nthI hs (nm L j))) := h.cells h0

def heightR (l : List St) (hs : List Int) (L : List Nat) (a : Int) : Ra :=
  match (List.range L.length).find? (fun j => decide (a ≤ (nthS l (nm L j)).a)) with
  | none => ⟨0, 0⟩
  | some j => if (nthS l (nm L j)).a = a then ⟨nthI hs (nm L j), 1⟩
    else frac (nthI hs (nm L (j - 1)) * ((nthS l (nm L j)).a - a) + nthI hs (nm L j) * (a - (nthS l (nm L (j - 1))).a)) ((nthS l (nm L j)).a - (nthS l (nm L (j - 1))).a)
theorem find_range {p : Nat → Bool} {n i : Nat} (hi : i < n) (hp : p i = true) (hl : ∀ j, j < i → p j = false) : (List.range n).find? p = some i := by
  rw [List.find?_range_eq_some]
  exact ⟨hp, List.mem_range.2 hi, fun j hj => by rw [hl j hj]; rfl⟩
theorem heightR_eq (l : List St) (hs : List Int) (L : List Nat) (a : Int) (j : Nat) (hj : j < L.length) (hlt : ∀ i, i < j → (nthS l (nm L i)).a < a) (he : (nthS l (nm L j)).a = a) : heightR l hs L a = ⟨nthI hs (nm L j), 1⟩ := by
  unfold heightR
  rw [find_range (i := j) hj (by simp; omega) (fun i hi => by have := hlt i hi; simp; omega)]
  simp only [he, if_true]
theorem heightR_gt (l : List St) (hs : List Int) (L : List Nat) (a : Int) (j : Nat) (hj : j < L.length) (hlt : ∀ i, i < j → (nthS l (nm L i)).a < a) (he : a < (nthS l (nm L j)).a) :
    heightR l hs L a = frac (nthI hs (nm L (j - 1)) * ((nthS l (nm L j)).a - a) + nthI hs (nm L j) * (a - (nthS l (nm L (j - 1))).a)) ((nthS l (nm L j)).a - (nthS l (nm L (j - 1))).a) := by
  unfold heightR
  rw [find_range (i := j) hj (by simp; omega) (fun i hi => by have := hlt i hi; simp; omega)]
  simp only [if_neg (show ¬ (nthS l (nm L j)).a = a by omega)]
theorem heightR_none (l : List St) (hs : List Int) (L : List Nat) (a : Int) (hlt : ∀ i, i < L.length → (nthS l (nm L i)).a < a) : heightR l hs L a = ⟨0, 0⟩ := by
  unfold heightR
  rw [List.find?_eq_none.2 (fun i hi => by have := hlt i (List.mem_range.1 hi); simp; omega)]

set_option maxRecDepth 100000 in
set_option maxHeartbeats 4000000 in
theorem height_any (l : List St) (hs : List Int) (L : List Nat) (base : Nat) (v : Value) (pa p1 p2 p3 p4 : Int) (w : World) (hO : OwnP w base v l hs L) (h0 : 0 < L.length) (hL : L.length ≤ 25)
    (hb : ∀ j, j < L.length → 0 ≤ (nthS l (nm L j)).a ∧ (nthS l (nm L j)).a ≤ 1000 ∧ -1000 ≤ nthI hs (nm L j) ∧ nthI hs (nm L j) ≤ 1000)
    (hinc : ∀ j, j + 1 < L.length → (nthS l (nm L j)).a < (nthS l (nm L (j + 1))).a) (hfst : (nthS l (nm L 0)).a ≤ pa) (hpa : 0 ≤ pa ∧ pa ≤ 1000) :
    Calls Try.prog 64 #[v, .agg #[.int .i64 pa, .int .i64 p1, .int .i64 p2, .int .i64 p3, .int .i64 p4]] w fun e w' =>
      e = .returned (.agg #[.int .i64 (heightR l hs L pa).num, .int .i64 (heightR l hs L pa).den]) ∧ Below w.heap.size w w' := by
  obtain ⟨g, cap, rfl, hg, hcap, hc⟩ := hO.cellsN h0
  have HC := Lib.hid hc; have HB := Lib.hid hb; have HI := Lib.hid hinc; have HF := Lib.hid hfst
  have H1 := Lib.hid (heightR_eq l hs L pa); have H2 := Lib.hid (heightR_gt l hs L pa); have H3 := Lib.hid (heightR_none l hs L pa)
  obtain ⟨R, hR⟩ : ∃ R, heightR l hs L pa = R := ⟨_, rfl⟩
  rw [hR] at H1 H2 H3 ⊢
  clear hc hb hinc hfst hO hR
  go_enter Try.func64, Try.ntmps64
  go_wp2_with fail
  go_loopw [10] (fun iv wr => ∃ j : Nat, j ≤ L.length ∧ iv = .int .i64 j ∧ BK wr w.heap.size #[.int .i64 pa, .int .i64 p1, .int .i64 p2, .int .i64 p3, .int .i64 p4] 85 ∧ BK wr (w.heap.size + 1) #[.int .i64 0, .int .i64 0] 25 ∧ Below w.heap.size w wr ∧ ∀ i, i < j → (nthS l (nm L i)).a < pa) (fun i _ => L.length - (intOf i).toNat)
  case atStart => exact ⟨0, Nat.zero_le _, rfl, BK.alloc (BK.new _ _ _) _, BK.new' _ _ _ _ (by simp), by exact bel_of, fun i hi => absurd hi (by omega)⟩
  case round =>
    obtain ⟨j, hj, rfl, b0, b1, hbw, hall⟩ := hrel
    have HALL := Lib.hid hall; clear hall
    have hsz := hbw.size
    have hlt1 := b1.lt
    have hlt0 := b0.lt
    have y0 := b0.cell 0
    have z0 := b1.cell 0
    have z1 := b1.cell 1
    have f0 := b1.frozen 0
    have f1 := b1.frozen 1
    simp at y0 z0 z1
    by_cases hlt : j < L.length
    · obtain ⟨c0, c1, c2, c3, c4⟩ := HC.out j hlt
      rw [← hbw.cell (by exact hg)] at c0 c1 c2 c3 c4
      have hgr : g < wr.heap.size := by omega
      have q1 := HB.out j hlt
      rcases Int.lt_trichotomy (nthS l (nm L j)).a pa with hc | hc | hc
      · have d1 : ((nthS l (nm L j)).a == pa) = false := by simp; omega
        have d2 : decide (pa < (nthS l (nm L j)).a) = false := by simp; omega
        go_wp2_with fail
        go_roundw
        case rel => exact ⟨j + 1, by omega, by go_num, by (repeat (first | assumption | (refine BK.alloc ?_ _) | (refine BK.drew ?_) | (refine BK.drewN ?_ _) | (refine BK.far ?_ (by first | omega | (simp; omega) | (simp; done)) _))), by (repeat (first | assumption | (refine BK.alloc ?_ _) | (refine BK.drew ?_) | (refine BK.drewN ?_ _) | (refine BK.far ?_ (by first | omega | (simp; omega) | (simp; done)) _))), by exact bel_of, fun i hi => by
          rcases Nat.lt_succ_iff_lt_or_eq.1 hi with h | rfl
          · exact HALL.out i h
          · exact hc⟩
        case measure => simp [intOf]; omega
      · have d1 : ((nthS l (nm L j)).a == pa) = true := by simpa using hc
        have HR := Lib.hid (H1.out j hlt HALL.out hc)
        go_wp2_with fail
        have b5 := ((b1.set 0 (.int .i64 (nthI hs (nm L j)))).set 1 (.int .i64 1)).alloc (.cells #[.int .i64 pa, .int .i64 (nthS l (nm L j)).lo, .int .i64 (nthS l (nm L j)).hi, .int .i64 (nm L j : Nat), .int .i64 (nthI hs (nm L j))] 85)
        simp at b5
        refine ret_bk (w := w) (n := w.heap.size) b5 (by exact bel_of) (v := .agg #[.int .i64 (nthI hs (nm L j)), .int .i64 1]) ?_ ?_
        · intro W' hb'
          have z0 := hb'.cell 0
          have z1 := hb'.cell 1
          simp at z0 z1
          simp [results, Try.results64, go_sem, z0, z1]
        exact ⟨by rw [HR.out], by exact bel_of⟩
      · have d1 : ((nthS l (nm L j)).a == pa) = false := by simp; omega
        have d2 : decide (pa < (nthS l (nm L j)).a) = true := by simp; omega
        have HR := Lib.hid (H2.out j hlt HALL.out hc)
        obtain ⟨m, rfl⟩ : ∃ m, j = m + 1 := by
          cases j with
          | zero => have := HF.out; omega
          | succ m => exact ⟨m, rfl⟩
        rw [Nat.add_sub_cancel] at HR
        obtain ⟨x0, x1, x2, x3, x4⟩ := HC.out m (by omega)
        rw [← hbw.cell (by exact hg)] at x0 x1 x2 x3 x4
        have q2 := HB.out m (by omega)
        have q3 := HI.out m hlt
        have q4 := HALL.out m (by omega)
        generalize nm L (m + 1) = Q at *
        generalize nm L m = P at *
        have e1 := mul_bd (nthI hs P) ((nthS l Q).a - pa) 1000 1000 (by omega) (by omega)
        have e2 := mul_bd (nthI hs Q) (pa - (nthS l P).a) 1000 1000 (by omega) (by omega)
        simp only [Nat.reduceMul] at e1 e2
        have hF := fun W => least_any (nthI hs P * ((nthS l Q).a - pa) + nthI hs Q * (pa - (nthS l P).a)) ((nthS l Q).a - (nthS l P).a) W (by omega) (by omega) (by omega) (by omega)
        rw [← HR.out] at hF
        have HFR := Lib.hid hF; clear hF
        have _hp1 : ((m : Int) + 1 - 1).toNat = m := by omega
        have _hw1 : IntKind.i64.wrap (m : Int) = (m : Int) := by rw [IntKind.wrap_i64]; omega
        have _hw2 : IntKind.i64.wrap ((m : Int) + 1 - 1) = (m : Int) := by rw [IntKind.wrap_i64]; omega
        have _hn1 : (m : Int) < (L.length : Int) := by omega
        have hm : m < L.length := by omega
        go_wp2_with fail
        refine (HFR.out _).mono ?_
        rintro e w3 ⟨rfl, hb3⟩
        have hB3 : Below w.heap.size w w3 := (Below.trans (a := w) (B := w.heap.size) (by exact bel_of) (hb3.mono (by first | omega | (simp; omega) | (simp; done))))
        have b3 : BK w3 (w.heap.size + 1) #[.int .i64 0, .int .i64 0] 25 := ((b1.alloc _).alloc _).below hb3 (by simp; omega)
        clear hb3
        have z0 := b3.cell 0
        have z1 := b3.cell 1
        have f0 := b3.frozen 0
        have f1 := b3.frozen 1
        simp at z0 z1
        go_wp2_with fail
        have b5 := (b3.set 0 (.int .i64 R.num)).set 1 (.int .i64 R.den)
        simp at b5
        refine ret_bk (w := w) (n := w.heap.size) b5 (by exact bel_of) (v := .agg #[.int .i64 R.num, .int .i64 R.den]) ?_ ?_
        · intro W' hb'
          have z0 := hb'.cell 0
          have z1 := hb'.cell 1
          simp at z0 z1
          simp [results, Try.results64, go_sem, z0, z1]
        exact ⟨rfl, by exact bel_of⟩
    · have HR := Lib.hid (H3.out fun i hi => HALL.out i (by omega))
      go_wp2_with fail
      have b5 := (b1.set 0 (.int .i64 0)).set 1 (.int .i64 0)
      simp at b5
      refine ret_bk (w := w) (n := w.heap.size) b5 (by exact bel_of) (v := .agg #[.int .i64 0, .int .i64 0]) ?_ ?_
      · intro W' hb'
        have z0 := hb'.cell 0
        have z1 := hb'.cell 1
        simp at z0 z1
        simp [results, Try.results64, go_sem, z0, z1]
      exact ⟨by rw [HR.out], by exact bel_of⟩
end Go.Proofs.Ytbjmkmambmeifaa

namespace Go.Proofs.Ytbjmkmambmeifaa
open Go.RowKit

set_option maxHeartbeats 2000000 in
theorem isTruth_any (l : List St) (t : List Int) (vl vt : Value) (w : World) (hl : l.length ≤ 1000) (ht : t.length ≤ 1000) (h : RSt w w.heap.size vl l) (h' : RI w w.heap.size vt t) :
    Calls Try.prog 51 #[vl, vt] w fun e w' => e = .returned (.int .i64 (checkTruth l t)) ∧ Below w.heap.size w w' := by
  obtain ⟨e0, he0⟩ : ∃ e0, checkPair l = e0 := ⟨_, rfl⟩
  have hcall := refCheckPair_any l vl w hl h
  have hcall2 := fun w1 (hb : Below w.heap.size w w1) => refCheckPair_any l vl w1 hl ((h.below hb).more hb.size)
  rw [he0] at hcall hcall2
  have HP := Lib.hid hcall; clear hcall
  have HP2 := Lib.hid hcall2; clear hcall2
  by_cases hp : e0 = 0
  · subst hp
    obtain ⟨hn0, hn1⟩ := checkPair_len l he0
    obtain ⟨A, cap, b, off, rfl, hA, hc⟩ := h.cells
    obtain ⟨A', cap', b', off', rfl, hA', hc'⟩ := h'.cells
    obtain ⟨rfl, hb⟩ := hA (by omega)
    have HC := Lib.hid hc; have HC' := Lib.hid hc'
    clear hc hc' hA h h' HP2
    by_cases hlen : t.length = l.length
    · have hbne : ((t.length : Int) != (l.length : Int)) = false := by simp; omega
      obtain ⟨rfl, hb'⟩ := hA' (by omega)
      clear hA'
      have HE0 := Lib.hid he0; clear he0
      go_enter Try.func51, Try.ntmps51
      go_wp2_with fail
      refine HP.out.mono ?_
      rintro e w1 ⟨rfl, hb1⟩
      go_wp2_with fail
      go_loopw [5] (fun i wr => ∃ k : Nat, k ≤ l.length ∧ i = .int .i64 k ∧ Below w.heap.size w wr ∧ ∀ j, j < k → inSt l t j = true) (fun i _ => l.length - (intOf i).toNat)
      case atStart => exact ⟨0, Nat.zero_le _, rfl, by exact bel_of, fun j hj => absurd hj (by omega)⟩
      case round =>
        obtain ⟨k, hk, rfl, hbw, hall⟩ := hrel
        have HA := Lib.hid hall; clear hall
        by_cases hlt : k < l.length
        · have hcell := HC.out k hlt
          have hcell' := HC'.out k (by omega)
          rw [← hbw.cell (by exact hb), ← hbw.cell (by exact hb), ← hbw.cell (by exact hb)] at hcell
          rw [← hbw.cell (by exact hb')] at hcell'
          obtain ⟨c0, c1, c2⟩ := hcell
          have hsz := hbw.size
          have hbr : b < wr.heap.size := by omega
          have hbr' : b' < wr.heap.size := by omega
          have hkt : k < t.length := by omega
          rcases (by omega : nthI t k < (nthS l k).lo ∨ (¬ nthI t k < (nthS l k).lo ∧ (nthS l k).hi < nthI t k) ∨ (¬ nthI t k < (nthS l k).lo ∧ ¬ (nthS l k).hi < nthI t k)) with h1 | ⟨h1, h2⟩ | ⟨h1, h2⟩
          · have d1 := decide_eq_true h1
            have HT := Lib.hid (checkTruth_bad l t HE0.out hlen k hlt (by simp [inSt, inB]; omega))
            go_wp2_with fail
            go_quiet (fail)
            go_wp2_with fail
            go_ret
            exact ⟨ret_int HT.out.symm, by exact bel_of⟩
          · have d1 := decide_eq_false h1
            have d2 := decide_eq_true h2
            have HT := Lib.hid (checkTruth_bad l t HE0.out hlen k hlt (by simp [inSt, inB]; omega))
            go_wp2_with fail
            go_quiet (fail)
            go_wp2_with fail
            go_ret
            exact ⟨ret_int HT.out.symm, by exact bel_of⟩
          · have d1 := decide_eq_false h1
            have d2 := decide_eq_false h2
            have HQ := Lib.hid (by simp [inSt, inB]; omega : inSt l t k = true)
            go_wp2_with fail
            go_quiet (fail)
            go_wp2_with fail
            go_roundw
            case rel => exact ⟨k + 1, by omega, by go_num, by exact bel_of, fun j hj => by
              rcases Nat.lt_succ_iff_lt_or_eq.1 hj with h | rfl
              · exact HA.out j h
              · exact HQ.out⟩
            case measure => simp [intOf]; omega
        · have HT := Lib.hid (checkTruth_ok l t HE0.out hlen fun j hj => HA.out j (by omega))
          go_wp2_with fail
          go_ret
          exact ⟨ret_int HT.out.symm, by exact bel_of⟩
    · have hbne : ((t.length : Int) != (l.length : Int)) = true := by simp; omega
      have HT := Lib.hid (checkTruth_len l t he0 hlen)
      clear hlen
      go_enter Try.func51, Try.ntmps51
      go_wp2_with fail
      refine HP.out.mono ?_
      rintro e w1 ⟨rfl, hb1⟩
      go_wp2_with fail
      go_ret
      exact ⟨ret_int HT.out.symm, by exact bel_of⟩
  · have hpb : (e0 != 0) = true := by simpa using hp
    have HT := Lib.hid (checkTruth_pair l t (by rw [he0]; exact hp))
    have HE := Lib.hid he0
    clear he0
    go_enter Try.func51, Try.ntmps51
    go_wp2_with fail
    refine HP.out.mono ?_
    rintro e w1 ⟨rfl, hb1⟩
    go_wp2_with fail
    refine (HP2.out w1 hb1).mono ?_
    rintro e w2 ⟨rfl, hb2⟩
    have hb2' : Below w.heap.size w w2 := hb1.trans (hb2.mono hb1.size)
    go_wp2_with fail
    go_ret
    exact ⟨ret_int (by rw [HT.out, HE.out]), by exact bel_of⟩

def checkStation (l : List St) (s : Int) : Int := if checkPair l ≠ 0 then checkPair l else if 0 ≤ s ∧ s < l.length then 0 else 3
theorem checkStation_pair (l : List St) (s : Int) (h : checkPair l ≠ 0) : checkStation l s = checkPair l := by rw [checkStation, if_pos h]
theorem checkStation_bad (l : List St) (s : Int) (h : checkPair l = 0) (h2 : ¬ (0 ≤ s ∧ s < l.length)) : checkStation l s = 3 := by rw [checkStation, if_neg (by simpa using h), if_neg h2]
theorem checkStation_ok (l : List St) (s : Int) (h : checkPair l = 0) (h2 : 0 ≤ s ∧ s < l.length) : checkStation l s = 0 := by rw [checkStation, if_neg (by simpa using h), if_pos h2]

set_option maxHeartbeats 2000000 in
theorem isStation_any (l : List St) (s : Int) (vl : Value) (w : World) (hl : l.length ≤ 1000) (h : RSt w w.heap.size vl l) :
    Calls Try.prog 56 #[vl, .int .i64 s] w fun e w' => e = .returned (.int .i64 (checkStation l s)) ∧ Below w.heap.size w w' := by
  obtain ⟨e0, he0⟩ : ∃ e0, checkPair l = e0 := ⟨_, rfl⟩
  have hcall := refCheckPair_any l vl w hl h
  have hcall2 := fun w1 (hb : Below w.heap.size w w1) => refCheckPair_any l vl w1 hl ((h.below hb).more hb.size)
  rw [he0] at hcall hcall2
  have HP := Lib.hid hcall; clear hcall
  have HP2 := Lib.hid hcall2; clear hcall2
  by_cases hp : e0 = 0
  · subst hp
    obtain ⟨A, cap, b, off, rfl, _, _⟩ := h.cells
    clear h HP2
    rcases (by omega : s < 0 ∨ (¬ s < 0 ∧ (l.length : Int) ≤ s) ∨ (¬ s < 0 ∧ ¬ (l.length : Int) ≤ s)) with h1 | ⟨h1, h2⟩ | ⟨h1, h2⟩
    · have d1 := decide_eq_true h1
      have HT := Lib.hid (checkStation_bad l s he0 (by omega))
      clear he0
      go_enter Try.func56, Try.ntmps56
      go_wp2_with fail
      refine HP.out.mono ?_
      rintro e w1 ⟨rfl, hb1⟩
      go_wp2_with fail
      go_ret
      exact ⟨ret_int HT.out.symm, by exact bel_of⟩
    · have d1 := decide_eq_false h1
      have d2 := decide_eq_true h2
      have HT := Lib.hid (checkStation_bad l s he0 (by omega))
      clear he0
      go_enter Try.func56, Try.ntmps56
      go_wp2_with fail
      refine HP.out.mono ?_
      rintro e w1 ⟨rfl, hb1⟩
      go_wp2_with fail
      go_ret
      exact ⟨ret_int HT.out.symm, by exact bel_of⟩
    · have d1 := decide_eq_false h1
      have d2 := decide_eq_false h2
      have HT := Lib.hid (checkStation_ok l s he0 (by omega))
      clear he0
      go_enter Try.func56, Try.ntmps56
      go_wp2_with fail
      refine HP.out.mono ?_
      rintro e w1 ⟨rfl, hb1⟩
      go_wp2_with fail
      go_ret
      exact ⟨ret_int HT.out.symm, by exact bel_of⟩
  · have hpb : (e0 != 0) = true := by simpa using hp
    have HT := Lib.hid (checkStation_pair l s (by rw [he0]; exact hp))
    have HE := Lib.hid he0
    clear he0
    go_enter Try.func56, Try.ntmps56
    go_wp2_with fail
    refine HP.out.mono ?_
    rintro e w1 ⟨rfl, hb1⟩
    go_wp2_with fail
    refine (HP2.out w1 hb1).mono ?_
    rintro e w2 ⟨rfl, hb2⟩
    have hb2' : Below w.heap.size w w2 := hb1.trans (hb2.mono hb1.size)
    go_wp2_with fail
    go_ret
    exact ⟨ret_int (by rw [HT.out, HE.out]), by exact bel_of⟩
end Go.Proofs.Ytbjmkmambmeifaa
