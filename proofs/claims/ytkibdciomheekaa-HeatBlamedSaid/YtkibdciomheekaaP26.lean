/- The works of the examples. Does a history agree with a recipe and with what was measured. -/
import Derived.Test.YtkibdciomheekaaP24
import Derived.Test.YtkibdciomheekaaP10
import Derived.Test.YtkibdciomheekaaP9
import Derived.Test.YtkibdciomheekaaP5
set_option linter.all false
set_option linter.unnecessarySimpa false
set_option linter.unusedSimpArgs false
set_option linter.unusedVariables false
set_option linter.unusedSectionVars false

set_option linter.all false
namespace Go.Proofs.Ytkibdciomheekaa
open Go.RowKit Hp

/-- The works of the examples. -/
def houseB : List Rg := [⟨100, 170⟩, ⟨150, 300⟩]
def houseS : List Stp := [[[⟨0, 400, 500⟩, ⟨180, 450, 600⟩], [⟨0, 300, 650⟩]], [[⟨0, 200, 300⟩, ⟨420, 280, 400⟩, ⟨550, 350, 480⟩]]]
def HousePost (w : World) (e : Ending) (w' : World) : Prop := ∃ A B, e = .returned (.agg #[.slice A 2 2, .slice B 2 2]) ∧ RR w' w'.heap.size (.slice A 2 2) houseB ∧ RP w' w'.heap.size (.slice B 2 2) houseS ∧ Below w.heap.size w w'
theorem rs_new {W : World} {B sz n g : Nat} {cs : List Value} {t : TypeId} (h : BK W g cs.toArray t) (hB : g < B) (hl : cs.length = n * sz) : RS W B sz (.slice (some ⟨g, 0, none⟩) n n) n cs :=
  ⟨some ⟨g, 0, none⟩, n, g, 0, rfl, ⟨hl, Nat.le_refl _⟩, fun _ => ⟨rfl, hB⟩, fun j hj => by rw [Nat.zero_add, h.cell]; simp⟩
theorem bk_ne {W : World} {a b : Nat} {cs cs' : Array Value} {t t' : TypeId} (h : BK W a cs t) (h' : BK W b cs' t') (ht : t ≠ t') : a ≠ b := fun e => by
  subst e
  unfold BK at h h'
  rw [h] at h'
  injection h' with h'
  injection h' with _ h'
  exact ht h'
theorem rn_new {α : Type} {R : World → Nat → Value → α → Prop} {W : World} {B n g : Nat} {us : List Value} {l : List α} {t : TypeId} (h : BK W g us.toArray t) (hB : g < B) (hl : l.length = n) (hu : ∀ (k : Nat) (x : α), l[k]? = some x → ∃ u, us[k]? = some u ∧ R W B u x) : RN R W B (.slice (some ⟨g, 0, none⟩) n n) l := by
  subst hl
  refine ⟨some ⟨g, 0, none⟩, l.length, g, 0, rfl, Nat.le_refl _, fun _ => ⟨rfl, hB⟩, fun k x hx => ?_⟩
  obtain ⟨u, h1, h2⟩ := hu k x hx
  exact ⟨u, by rw [Nat.zero_add, h.cell]; simpa using h1, h2⟩
/-- What lies in the blocks of the house. -/
theorem house_rp {W : World} {B k1 k2 w1 k3 w2 s : Nat} (h1 : BK W k1 #[.int .i64 0, .int .i64 400, .int .i64 500, .int .i64 180, .int .i64 450, .int .i64 600] 92) (h2 : BK W k2 #[.int .i64 0, .int .i64 300, .int .i64 650] 92) (h3 : BK W w1 #[.slice (some ⟨k1, 0, none⟩) 2 2, .slice (some ⟨k2, 0, none⟩) 1 1] 28) (h4 : BK W k3 #[.int .i64 0, .int .i64 200, .int .i64 300, .int .i64 420, .int .i64 280, .int .i64 400, .int .i64 550, .int .i64 350, .int .i64 480] 92) (h5 : BK W w2 #[.slice (some ⟨k3, 0, none⟩) 3 3] 28) (h6 : BK W s #[.slice (some ⟨w1, 0, none⟩) 2 2, .slice (some ⟨w2, 0, none⟩) 1 1] 88) (hB : W.heap.size ≤ B) : RP W B (.slice (some ⟨s, 0, none⟩) 2 2) houseS := by
  have l1 := h1.lt
  have l2 := h2.lt
  have l3 := h3.lt
  have l4 := h4.lt
  have l5 := h5.lt
  have l6 := h6.lt
  have q1 : RK W B (.slice (some ⟨k1, 0, none⟩) 2 2) [⟨0, 400, 500⟩, ⟨180, 450, 600⟩] := rs_new h1 (by omega) rfl
  have q2 : RK W B (.slice (some ⟨k2, 0, none⟩) 1 1) [⟨0, 300, 650⟩] := rs_new h2 (by omega) rfl
  have q3 : RK W B (.slice (some ⟨k3, 0, none⟩) 3 3) [⟨0, 200, 300⟩, ⟨420, 280, 400⟩, ⟨550, 350, 480⟩] := rs_new h4 (by omega) rfl
  have q4 : RW W B (.slice (some ⟨w1, 0, none⟩) 2 2) [[⟨0, 400, 500⟩, ⟨180, 450, 600⟩], [⟨0, 300, 650⟩]] := rn_new h3 (by omega) rfl (by
    intro k x hx
    rcases k with _ | _ | k
    · simp at hx; subst hx; exact ⟨_, rfl, q1⟩
    · simp at hx; subst hx; exact ⟨_, rfl, q2⟩
    · simp at hx)
  have q5 : RW W B (.slice (some ⟨w2, 0, none⟩) 1 1) [[⟨0, 200, 300⟩, ⟨420, 280, 400⟩, ⟨550, 350, 480⟩]] := rn_new h5 (by omega) rfl (by
    intro k x hx
    rcases k with _ | k
    · simp at hx; subst hx; exact ⟨_, rfl, q3⟩
    · simp at hx)
  exact rn_new h6 (by omega) rfl (by
    intro k x hx
    rcases k with _ | _ | k
    · simp [houseS] at hx; subst hx; exact ⟨_, rfl, q4⟩
    · simp [houseS] at hx; subst hx; exact ⟨_, rfl, q5⟩
    · simp [houseS] at hx)
set_option maxHeartbeats 8000000 in
set_option maxRecDepth 100000 in
theorem house_any (w : World) : Calls Try.prog 52 #[] w (HousePost w) := by
  obtain ⟨n0, hn0⟩ : ∃ n, w.heap.size = n := ⟨_, rfl⟩
  have hC : Below n0 w w := Below.refl _ _
  go_enter Try.func52, Try.ntmps52
  go_wp2_with fail
  have hqrs : n0 ≤ n0 := by have := hC.size; omega
  have rs : BK (w.alloc (.cells #[.slice none 0 0, .slice none 0 0] 25)) (n0) #[.slice none 0 0, .slice none 0 0] 25 := BK.new' _ _ _ (n0) hn0
  have hsrs : (w.alloc (.cells #[.slice none 0 0, .slice none 0 0] 25)).heap.size = n0 + 1 := by simp [hn0]
  replace hC : Below n0 w (w.alloc (.cells #[.slice none 0 0, .slice none 0 0] 25)) := Below.alloc hC (by have := hC.size; omega) _
  generalize (w.alloc (.cells #[.slice none 0 0, .slice none 0 0] 25)) = Wrs at *
  clear hsrs
  refine (kink_any 0 400 500 _).mono ?_
  rintro e w1 ⟨rfl, hb⟩
  replace hC : Below n0 w w1 := hC.trans (hb.mono (by have := hC.size; omega))
  replace rs := rs.below hb rs.lt
  clear hb
  go_wp2_with fail
  refine (kink_any 180 450 600 _).mono ?_
  rintro e w2 ⟨rfl, hb⟩
  replace hC : Below n0 w w2 := hC.trans (hb.mono (by have := hC.size; omega))
  replace rs := rs.below hb rs.lt
  clear hb
  go_wp2_with fail
  obtain ⟨m1, hm1⟩ : ∃ n, w2.heap.size = n := ⟨_, rfl⟩
  try rw [hm1]
  have hqk1 : n0 ≤ m1 := by have := hC.size; omega
  have k1 : BK (w2.alloc (.cells #[.int .i64 0, .int .i64 400, .int .i64 500, .int .i64 180, .int .i64 450, .int .i64 600] 92)) (m1) #[.int .i64 0, .int .i64 400, .int .i64 500, .int .i64 180, .int .i64 450, .int .i64 600] 92 := BK.new' _ _ _ (m1) hm1
  have hsk1 : (w2.alloc (.cells #[.int .i64 0, .int .i64 400, .int .i64 500, .int .i64 180, .int .i64 450, .int .i64 600] 92)).heap.size = m1 + 1 := by simp [hm1]
  replace hC : Below n0 w (w2.alloc (.cells #[.int .i64 0, .int .i64 400, .int .i64 500, .int .i64 180, .int .i64 450, .int .i64 600] 92)) := Below.alloc hC (by have := hC.size; omega) _
  replace rs := rs.alloc (.cells #[.int .i64 0, .int .i64 400, .int .i64 500, .int .i64 180, .int .i64 450, .int .i64 600] 92)
  generalize (w2.alloc (.cells #[.int .i64 0, .int .i64 400, .int .i64 500, .int .i64 180, .int .i64 450, .int .i64 600] 92)) = Wk1 at *
  clear hm1
  clear hsk1
  refine (way_any _ _ _ _).mono ?_
  rintro e w3 ⟨rfl, hb⟩
  replace hC : Below n0 w w3 := hC.trans (hb.mono (by have := hC.size; omega))
  replace rs := rs.below hb rs.lt
  replace k1 := k1.below hb k1.lt
  clear hb
  go_wp2_with fail
  refine (kink_any 0 300 650 _).mono ?_
  rintro e w4 ⟨rfl, hb⟩
  replace hC : Below n0 w w4 := hC.trans (hb.mono (by have := hC.size; omega))
  replace rs := rs.below hb rs.lt
  replace k1 := k1.below hb k1.lt
  clear hb
  go_wp2_with fail
  obtain ⟨m2, hm2⟩ : ∃ n, w4.heap.size = n := ⟨_, rfl⟩
  try rw [hm2]
  have hqk2 : n0 ≤ m2 := by have := hC.size; omega
  have k2 : BK (w4.alloc (.cells #[.int .i64 0, .int .i64 300, .int .i64 650] 92)) (m2) #[.int .i64 0, .int .i64 300, .int .i64 650] 92 := BK.new' _ _ _ (m2) hm2
  have hsk2 : (w4.alloc (.cells #[.int .i64 0, .int .i64 300, .int .i64 650] 92)).heap.size = m2 + 1 := by simp [hm2]
  replace hC : Below n0 w (w4.alloc (.cells #[.int .i64 0, .int .i64 300, .int .i64 650] 92)) := Below.alloc hC (by have := hC.size; omega) _
  replace rs := rs.alloc (.cells #[.int .i64 0, .int .i64 300, .int .i64 650] 92)
  replace k1 := k1.alloc (.cells #[.int .i64 0, .int .i64 300, .int .i64 650] 92)
  generalize (w4.alloc (.cells #[.int .i64 0, .int .i64 300, .int .i64 650] 92)) = Wk2 at *
  clear hm2
  clear hsk2
  refine (way_any _ _ _ _).mono ?_
  rintro e w5 ⟨rfl, hb⟩
  replace hC : Below n0 w w5 := hC.trans (hb.mono (by have := hC.size; omega))
  replace rs := rs.below hb rs.lt
  replace k1 := k1.below hb k1.lt
  replace k2 := k2.below hb k2.lt
  clear hb
  go_wp2_with fail
  obtain ⟨m3, hm3⟩ : ∃ n, w5.heap.size = n := ⟨_, rfl⟩
  try rw [hm3]
  have hqw1 : n0 ≤ m3 := by have := hC.size; omega
  have w1 : BK (w5.alloc (.cells #[.slice (some ⟨m1, 0, none⟩) 2 2, .slice (some ⟨m2, 0, none⟩) 1 1] 28)) (m3) #[.slice (some ⟨m1, 0, none⟩) 2 2, .slice (some ⟨m2, 0, none⟩) 1 1] 28 := BK.new' _ _ _ (m3) hm3
  have hsw1 : (w5.alloc (.cells #[.slice (some ⟨m1, 0, none⟩) 2 2, .slice (some ⟨m2, 0, none⟩) 1 1] 28)).heap.size = m3 + 1 := by simp [hm3]
  replace hC : Below n0 w (w5.alloc (.cells #[.slice (some ⟨m1, 0, none⟩) 2 2, .slice (some ⟨m2, 0, none⟩) 1 1] 28)) := Below.alloc hC (by have := hC.size; omega) _
  replace rs := rs.alloc (.cells #[.slice (some ⟨m1, 0, none⟩) 2 2, .slice (some ⟨m2, 0, none⟩) 1 1] 28)
  replace k1 := k1.alloc (.cells #[.slice (some ⟨m1, 0, none⟩) 2 2, .slice (some ⟨m2, 0, none⟩) 1 1] 28)
  replace k2 := k2.alloc (.cells #[.slice (some ⟨m1, 0, none⟩) 2 2, .slice (some ⟨m2, 0, none⟩) 1 1] 28)
  generalize (w5.alloc (.cells #[.slice (some ⟨m1, 0, none⟩) 2 2, .slice (some ⟨m2, 0, none⟩) 1 1] 28)) = Ww1 at *
  clear hm3
  clear hsw1
  refine (step_any _ _ _ _).mono ?_
  rintro e w6 ⟨rfl, hb⟩
  replace hC : Below n0 w w6 := hC.trans (hb.mono (by have := hC.size; omega))
  replace rs := rs.below hb rs.lt
  replace k1 := k1.below hb k1.lt
  replace k2 := k2.below hb k2.lt
  replace w1 := w1.below hb w1.lt
  clear hb
  go_wp2_with fail
  obtain ⟨m4, hm4⟩ : ∃ n, w6.heap.size = n := ⟨_, rfl⟩
  try rw [hm4]
  have hqs1 : n0 ≤ m4 := by have := hC.size; omega
  have s1 : BK (w6.alloc (.cells #[.slice (some ⟨m3, 0, none⟩) 2 2] 88)) (m4) #[.slice (some ⟨m3, 0, none⟩) 2 2] 88 := BK.new' _ _ _ (m4) hm4
  have hss1 : (w6.alloc (.cells #[.slice (some ⟨m3, 0, none⟩) 2 2] 88)).heap.size = m4 + 1 := by simp [hm4]
  replace hC : Below n0 w (w6.alloc (.cells #[.slice (some ⟨m3, 0, none⟩) 2 2] 88)) := Below.alloc hC (by have := hC.size; omega) _
  replace rs := rs.alloc (.cells #[.slice (some ⟨m3, 0, none⟩) 2 2] 88)
  replace k1 := k1.alloc (.cells #[.slice (some ⟨m3, 0, none⟩) 2 2] 88)
  replace k2 := k2.alloc (.cells #[.slice (some ⟨m3, 0, none⟩) 2 2] 88)
  replace w1 := w1.alloc (.cells #[.slice (some ⟨m3, 0, none⟩) 2 2] 88)
  generalize (w6.alloc (.cells #[.slice (some ⟨m3, 0, none⟩) 2 2] 88)) = Ws1 at *
  clear hm4
  clear hss1
  refine (kink_any 0 200 300 _).mono ?_
  rintro e w7 ⟨rfl, hb⟩
  replace hC : Below n0 w w7 := hC.trans (hb.mono (by have := hC.size; omega))
  replace rs := rs.below hb rs.lt
  replace k1 := k1.below hb k1.lt
  replace k2 := k2.below hb k2.lt
  replace w1 := w1.below hb w1.lt
  replace s1 := s1.below hb s1.lt
  clear hb
  go_wp2_with fail
  refine (kink_any 420 280 400 _).mono ?_
  rintro e w8 ⟨rfl, hb⟩
  replace hC : Below n0 w w8 := hC.trans (hb.mono (by have := hC.size; omega))
  replace rs := rs.below hb rs.lt
  replace k1 := k1.below hb k1.lt
  replace k2 := k2.below hb k2.lt
  replace w1 := w1.below hb w1.lt
  replace s1 := s1.below hb s1.lt
  clear hb
  go_wp2_with fail
  refine (kink_any 550 350 480 _).mono ?_
  rintro e w9 ⟨rfl, hb⟩
  replace hC : Below n0 w w9 := hC.trans (hb.mono (by have := hC.size; omega))
  replace rs := rs.below hb rs.lt
  replace k1 := k1.below hb k1.lt
  replace k2 := k2.below hb k2.lt
  replace w1 := w1.below hb w1.lt
  replace s1 := s1.below hb s1.lt
  clear hb
  go_wp2_with fail
  obtain ⟨m5, hm5⟩ : ∃ n, w9.heap.size = n := ⟨_, rfl⟩
  try rw [hm5]
  have hqk3 : n0 ≤ m5 := by have := hC.size; omega
  have k3 : BK (w9.alloc (.cells #[.int .i64 0, .int .i64 200, .int .i64 300, .int .i64 420, .int .i64 280, .int .i64 400, .int .i64 550, .int .i64 350, .int .i64 480] 92)) (m5) #[.int .i64 0, .int .i64 200, .int .i64 300, .int .i64 420, .int .i64 280, .int .i64 400, .int .i64 550, .int .i64 350, .int .i64 480] 92 := BK.new' _ _ _ (m5) hm5
  have hsk3 : (w9.alloc (.cells #[.int .i64 0, .int .i64 200, .int .i64 300, .int .i64 420, .int .i64 280, .int .i64 400, .int .i64 550, .int .i64 350, .int .i64 480] 92)).heap.size = m5 + 1 := by simp [hm5]
  replace hC : Below n0 w (w9.alloc (.cells #[.int .i64 0, .int .i64 200, .int .i64 300, .int .i64 420, .int .i64 280, .int .i64 400, .int .i64 550, .int .i64 350, .int .i64 480] 92)) := Below.alloc hC (by have := hC.size; omega) _
  replace rs := rs.alloc (.cells #[.int .i64 0, .int .i64 200, .int .i64 300, .int .i64 420, .int .i64 280, .int .i64 400, .int .i64 550, .int .i64 350, .int .i64 480] 92)
  replace k1 := k1.alloc (.cells #[.int .i64 0, .int .i64 200, .int .i64 300, .int .i64 420, .int .i64 280, .int .i64 400, .int .i64 550, .int .i64 350, .int .i64 480] 92)
  replace k2 := k2.alloc (.cells #[.int .i64 0, .int .i64 200, .int .i64 300, .int .i64 420, .int .i64 280, .int .i64 400, .int .i64 550, .int .i64 350, .int .i64 480] 92)
  replace w1 := w1.alloc (.cells #[.int .i64 0, .int .i64 200, .int .i64 300, .int .i64 420, .int .i64 280, .int .i64 400, .int .i64 550, .int .i64 350, .int .i64 480] 92)
  replace s1 := s1.alloc (.cells #[.int .i64 0, .int .i64 200, .int .i64 300, .int .i64 420, .int .i64 280, .int .i64 400, .int .i64 550, .int .i64 350, .int .i64 480] 92)
  generalize (w9.alloc (.cells #[.int .i64 0, .int .i64 200, .int .i64 300, .int .i64 420, .int .i64 280, .int .i64 400, .int .i64 550, .int .i64 350, .int .i64 480] 92)) = Wk3 at *
  clear hm5
  clear hsk3
  refine (way_any _ _ _ _).mono ?_
  rintro e w10 ⟨rfl, hb⟩
  replace hC : Below n0 w w10 := hC.trans (hb.mono (by have := hC.size; omega))
  replace rs := rs.below hb rs.lt
  replace k1 := k1.below hb k1.lt
  replace k2 := k2.below hb k2.lt
  replace w1 := w1.below hb w1.lt
  replace s1 := s1.below hb s1.lt
  replace k3 := k3.below hb k3.lt
  clear hb
  go_wp2_with fail
  obtain ⟨m6, hm6⟩ : ∃ n, w10.heap.size = n := ⟨_, rfl⟩
  try rw [hm6]
  have hqw2 : n0 ≤ m6 := by have := hC.size; omega
  have w2 : BK (w10.alloc (.cells #[.slice (some ⟨m5, 0, none⟩) 3 3] 28)) (m6) #[.slice (some ⟨m5, 0, none⟩) 3 3] 28 := BK.new' _ _ _ (m6) hm6
  have hsw2 : (w10.alloc (.cells #[.slice (some ⟨m5, 0, none⟩) 3 3] 28)).heap.size = m6 + 1 := by simp [hm6]
  replace hC : Below n0 w (w10.alloc (.cells #[.slice (some ⟨m5, 0, none⟩) 3 3] 28)) := Below.alloc hC (by have := hC.size; omega) _
  replace rs := rs.alloc (.cells #[.slice (some ⟨m5, 0, none⟩) 3 3] 28)
  replace k1 := k1.alloc (.cells #[.slice (some ⟨m5, 0, none⟩) 3 3] 28)
  replace k2 := k2.alloc (.cells #[.slice (some ⟨m5, 0, none⟩) 3 3] 28)
  replace w1 := w1.alloc (.cells #[.slice (some ⟨m5, 0, none⟩) 3 3] 28)
  replace s1 := s1.alloc (.cells #[.slice (some ⟨m5, 0, none⟩) 3 3] 28)
  replace k3 := k3.alloc (.cells #[.slice (some ⟨m5, 0, none⟩) 3 3] 28)
  generalize (w10.alloc (.cells #[.slice (some ⟨m5, 0, none⟩) 3 3] 28)) = Ww2 at *
  clear hm6
  clear hsw2
  refine (step_any _ _ _ _).mono ?_
  rintro e w11 ⟨rfl, hb⟩
  replace hC : Below n0 w w11 := hC.trans (hb.mono (by have := hC.size; omega))
  replace rs := rs.below hb rs.lt
  replace k1 := k1.below hb k1.lt
  replace k2 := k2.below hb k2.lt
  replace w1 := w1.below hb w1.lt
  replace s1 := s1.below hb s1.lt
  replace k3 := k3.below hb k3.lt
  replace w2 := w2.below hb w2.lt
  clear hb
  go_upto_region 3 with fail
  obtain ⟨m7, hm7⟩ : ∃ n, w11.heap.size = n := ⟨_, rfl⟩
  try rw [hm7]
  have hqs2 : n0 ≤ m7 := by have := hC.size; omega
  have s2 : BK (w11.alloc (.cells #[.slice (some ⟨m6, 0, none⟩) 1 1] 88)) (m7) #[.slice (some ⟨m6, 0, none⟩) 1 1] 88 := BK.new' _ _ _ (m7) hm7
  have hss2 : (w11.alloc (.cells #[.slice (some ⟨m6, 0, none⟩) 1 1] 88)).heap.size = m7 + 1 := by simp [hm7]
  replace hC : Below n0 w (w11.alloc (.cells #[.slice (some ⟨m6, 0, none⟩) 1 1] 88)) := Below.alloc hC (by have := hC.size; omega) _
  replace rs := rs.alloc (.cells #[.slice (some ⟨m6, 0, none⟩) 1 1] 88)
  replace k1 := k1.alloc (.cells #[.slice (some ⟨m6, 0, none⟩) 1 1] 88)
  replace k2 := k2.alloc (.cells #[.slice (some ⟨m6, 0, none⟩) 1 1] 88)
  replace w1 := w1.alloc (.cells #[.slice (some ⟨m6, 0, none⟩) 1 1] 88)
  replace s1 := s1.alloc (.cells #[.slice (some ⟨m6, 0, none⟩) 1 1] 88)
  replace k3 := k3.alloc (.cells #[.slice (some ⟨m6, 0, none⟩) 1 1] 88)
  replace w2 := w2.alloc (.cells #[.slice (some ⟨m6, 0, none⟩) 1 1] 88)
  generalize (w11.alloc (.cells #[.slice (some ⟨m6, 0, none⟩) 1 1] 88)) = Ws2 at *
  clear hm7
  clear hss2
  have ls1 := s1.lt
  have s1c0 := s1.cell 0
  simp at s1c0
  have ls2 := s2.lt
  have s2c0 := s2.cell 0
  simp at s2c0
  have d0y : Below Ws2.heap.size Ws2 Ws2.drew := by exact bel_of
  refine wp_region_noPanic (plain_any [3, 4, 6] (Below Ws2.heap.size Ws2) mixed ?_)
  refine any_tk 3 ?_
  refine any_tk 4 ?_
  have dy1 : Below Ws2.heap.size Ws2 Ws2.drew := by exact bel_of
  have hdr : Below Ws2.heap.size Ws2 Ws2.drew := Below.drew (Below.refl _ _)
  clear hdr
  generalize Ws2.drew = uy2 at *
  refine any_run2 (i := 0) (j := 5) (by kernel_rfl) (by rfl) (by rfl) (by rfl) (by rfl) ?_ ?_
  ·skip
   intro K hK
   have qy5 := dy1.size
   go_wp2_with fail
   refine (rg_any 100 170 _).mono ?_
   rintro e vy4 ⟨rfl, hb⟩
   have ey3 : Below Ws2.heap.size Ws2 vy4 := dy1.trans (hb.mono dy1.size)
   clear hb
   refine hK _ _ (fun _ => ey3) ?_
   clear hK K
   refine any_run2 (i := 1) (j := 5) (by kernel_rfl) (by rfl) (by rfl) (by rfl) (by rfl) ?_ ?_
   ·skip
    intro K hK
    have qy8 := ey3.size
    go_wp2_with fail
    refine (rg_any 150 300 _).mono ?_
    rintro e vy7 ⟨rfl, hb⟩
    have ey6 : Below Ws2.heap.size Ws2 vy7 := ey3.trans (hb.mono ey3.size)
    clear hb
    refine hK _ _ (fun _ => ey6) ?_
    clear hK K
    refine any_run2 (i := 2) (j := 5) (by kernel_rfl) (by rfl) (by rfl) (by rfl) (by rfl) ?_ ?_
    ·skip
     intro K hK
     have qy10 := ey6.size
     have ey9 : Below Ws2.heap.size Ws2 (vy7.alloc (.cells #[.int .i64 100, .int .i64 170, .int .i64 150, .int .i64 300] 33)) := Below.alloc ey6 ey6.size _
     have hnx : Below vy7.heap.size vy7 (vy7.alloc (.cells #[.int .i64 100, .int .i64 170, .int .i64 150, .int .i64 300] 33)) := Below.alloc (Below.refl _ _) (Nat.le_refl _) _
     go_wp2_with fail
     have ba : BK (vy7.alloc (.cells #[.int .i64 100, .int .i64 170, .int .i64 150, .int .i64 300] 33)) vy7.heap.size #[.int .i64 100, .int .i64 170, .int .i64 150, .int .i64 300] 33 := BK.new _ _ _
     refine hK _ _ (fun _ => ey9) ?_
     clear hK K hnx
     generalize (vy7.alloc (.cells #[.int .i64 100, .int .i64 170, .int .i64 150, .int .i64 300] 33)) = vy11 at *
     obtain ⟨gba, hgba⟩ : ∃ g, vy7.heap.size = g := ⟨_, rfl⟩
     have hqba : Ws2.heap.size ≤ gba := by omega
     rw [hgba] at ba
     try rw [hgba]
     clear hgba
     refine any_run1 (i := 5) (by kernel_rfl) (by rfl) (by kernel_rfl) ?_
     intro K hK
     have qy13 := ey9.size
     have ey12 : Below Ws2.heap.size Ws2 (vy11.alloc (.cells #[.slice (some ⟨m3, 0, none⟩) 2 2, .slice (some ⟨m6, 0, none⟩) 1 1] 88)) := Below.alloc ey9 ey9.size _
     have hnx : Below vy11.heap.size vy11 (vy11.alloc (.cells #[.slice (some ⟨m3, 0, none⟩) 2 2, .slice (some ⟨m6, 0, none⟩) 1 1] 88)) := Below.alloc (Below.refl _ _) (Nat.le_refl _) _
     go_wp2_with fail
     replace ba := ba.below hnx ba.lt
     have bb : BK (vy11.alloc (.cells #[.slice (some ⟨m3, 0, none⟩) 2 2, .slice (some ⟨m6, 0, none⟩) 1 1] 88)) vy11.heap.size #[.slice (some ⟨m3, 0, none⟩) 2 2, .slice (some ⟨m6, 0, none⟩) 1 1] 88 := BK.new _ _ _
     refine hK _ _ (fun _ => ey12) ?_
     clear hK K hnx
     generalize (vy11.alloc (.cells #[.slice (some ⟨m3, 0, none⟩) 2 2, .slice (some ⟨m6, 0, none⟩) 1 1] 88)) = vy14 at *
     obtain ⟨gbb, hgbb⟩ : ∃ g, vy11.heap.size = g := ⟨_, rfl⟩
     have hqbb : Ws2.heap.size ≤ gbb := by omega
     rw [hgbb] at bb
     try rw [hgbb]
     clear hgbb
     refine any_tk 6 ?_
     refine any_run1 (i := 7) (by kernel_rfl) (by rfl) (by kernel_rfl) ?_
     intro K hK
     have hbz := ey12
     clear ls1 s1c0
     clear ls2 s2c0
     replace hC : Below n0 w vy14 := hC.trans (hbz.mono (by have := hC.size; omega))
     replace rs := rs.below hbz rs.lt
     replace k1 := k1.below hbz k1.lt
     replace k2 := k2.below hbz k2.lt
     replace w1 := w1.below hbz w1.lt
     replace s1 := s1.below hbz s1.lt
     replace k3 := k3.below hbz k3.lt
     replace w2 := w2.below hbz w2.lt
     replace s2 := s2.below hbz s2.lt
     clear hbz
     have lrs := rs.lt
     have rsc0 := rs.cell 0
     have rsc1 := rs.cell 1
     simp at rsc0 rsc1
     have rsf0 := rs.frozen 0
     have rsf1 := rs.frozen 1
     go_wp2_with fail
     refine hK _ _ (fun hx => (Bool.false_ne_true (hx.symm.trans (by kernel_rfl))).elim) ?_
     clear hK K
     refine any_done (by kernel_rfl) (NoPanic.normal ?_)
     go_wp2_with fail
     clear lrs rsc0 rsc1
     clear rsf0 rsf1
     skip
     skip
     skip
     skip
     skip
     have x_k1 : BK ((vy14.setCell ⟨n0, 0, none⟩ (.slice (some ⟨gba, 0, none⟩) 2 2)).setCell ⟨n0, 1, none⟩ (.slice (some ⟨gbb, 0, none⟩) 2 2)) m1 _ _ := ((BK.far k1 (p := ⟨n0, 0, none⟩) (bk_ne k1 rs (by decide)) (.slice (some ⟨gba, 0, none⟩) 2 2)).far (p := ⟨n0, 1, none⟩) (bk_ne k1 rs (by decide)) (.slice (some ⟨gbb, 0, none⟩) 2 2))
     have x_k2 : BK ((vy14.setCell ⟨n0, 0, none⟩ (.slice (some ⟨gba, 0, none⟩) 2 2)).setCell ⟨n0, 1, none⟩ (.slice (some ⟨gbb, 0, none⟩) 2 2)) m2 _ _ := ((BK.far k2 (p := ⟨n0, 0, none⟩) (bk_ne k2 rs (by decide)) (.slice (some ⟨gba, 0, none⟩) 2 2)).far (p := ⟨n0, 1, none⟩) (bk_ne k2 rs (by decide)) (.slice (some ⟨gbb, 0, none⟩) 2 2))
     have x_w1 : BK ((vy14.setCell ⟨n0, 0, none⟩ (.slice (some ⟨gba, 0, none⟩) 2 2)).setCell ⟨n0, 1, none⟩ (.slice (some ⟨gbb, 0, none⟩) 2 2)) m3 _ _ := ((BK.far w1 (p := ⟨n0, 0, none⟩) (bk_ne w1 rs (by decide)) (.slice (some ⟨gba, 0, none⟩) 2 2)).far (p := ⟨n0, 1, none⟩) (bk_ne w1 rs (by decide)) (.slice (some ⟨gbb, 0, none⟩) 2 2))
     have x_k3 : BK ((vy14.setCell ⟨n0, 0, none⟩ (.slice (some ⟨gba, 0, none⟩) 2 2)).setCell ⟨n0, 1, none⟩ (.slice (some ⟨gbb, 0, none⟩) 2 2)) m5 _ _ := ((BK.far k3 (p := ⟨n0, 0, none⟩) (bk_ne k3 rs (by decide)) (.slice (some ⟨gba, 0, none⟩) 2 2)).far (p := ⟨n0, 1, none⟩) (bk_ne k3 rs (by decide)) (.slice (some ⟨gbb, 0, none⟩) 2 2))
     have x_w2 : BK ((vy14.setCell ⟨n0, 0, none⟩ (.slice (some ⟨gba, 0, none⟩) 2 2)).setCell ⟨n0, 1, none⟩ (.slice (some ⟨gbb, 0, none⟩) 2 2)) m6 _ _ := ((BK.far w2 (p := ⟨n0, 0, none⟩) (bk_ne w2 rs (by decide)) (.slice (some ⟨gba, 0, none⟩) 2 2)).far (p := ⟨n0, 1, none⟩) (bk_ne w2 rs (by decide)) (.slice (some ⟨gbb, 0, none⟩) 2 2))
     have x_ba : BK ((vy14.setCell ⟨n0, 0, none⟩ (.slice (some ⟨gba, 0, none⟩) 2 2)).setCell ⟨n0, 1, none⟩ (.slice (some ⟨gbb, 0, none⟩) 2 2)) gba _ _ := ((BK.far ba (p := ⟨n0, 0, none⟩) (bk_ne ba rs (by decide)) (.slice (some ⟨gba, 0, none⟩) 2 2)).far (p := ⟨n0, 1, none⟩) (bk_ne ba rs (by decide)) (.slice (some ⟨gbb, 0, none⟩) 2 2))
     have x_bb : BK ((vy14.setCell ⟨n0, 0, none⟩ (.slice (some ⟨gba, 0, none⟩) 2 2)).setCell ⟨n0, 1, none⟩ (.slice (some ⟨gbb, 0, none⟩) 2 2)) gbb _ _ := ((BK.far bb (p := ⟨n0, 0, none⟩) (bk_ne bb rs (by decide)) (.slice (some ⟨gba, 0, none⟩) 2 2)).far (p := ⟨n0, 1, none⟩) (bk_ne bb rs (by decide)) (.slice (some ⟨gbb, 0, none⟩) 2 2))
     have hbx : Below n0 w ((vy14.setCell ⟨n0, 0, none⟩ (.slice (some ⟨gba, 0, none⟩) 2 2)).setCell ⟨n0, 1, none⟩ (.slice (some ⟨gbb, 0, none⟩) 2 2)) := Below.setCell (Below.setCell hC (Nat.le_refl _) _) (Nat.le_refl _) _
     have rs2 := (rs.set 0 (.slice (some ⟨gba, 0, none⟩) 2 2)).set 1 (.slice (some ⟨gbb, 0, none⟩) 2 2)
     simp at rs2
     have z0 := rs2.cell 0
     have z1 := rs2.cell 1
     simp at z0 z1
     exact bodyPost_ret (v := .agg #[.slice (some ⟨gba, 0, none⟩) 2 2, .slice (some ⟨gbb, 0, none⟩) 2 2]) (by simp [results, Try.results52, go_sem, z0, z1]) rfl ⟨_, _, rfl, rs_new x_ba x_ba.lt rfl, house_rp x_k1 x_k2 x_w1 x_k3 x_w2 x_bb (Nat.le_refl _), by first | exact hbx | (rw [hn0]; exact hbx)⟩
    ·skip
     intro K hK
     have qy16 := ey6.size
     have ey15 : Below Ws2.heap.size Ws2 (vy7.alloc (.cells #[.slice (some ⟨m3, 0, none⟩) 2 2, .slice (some ⟨m6, 0, none⟩) 1 1] 88)) := Below.alloc ey6 ey6.size _
     have hnx : Below vy7.heap.size vy7 (vy7.alloc (.cells #[.slice (some ⟨m3, 0, none⟩) 2 2, .slice (some ⟨m6, 0, none⟩) 1 1] 88)) := Below.alloc (Below.refl _ _) (Nat.le_refl _) _
     go_wp2_with fail
     have bb : BK (vy7.alloc (.cells #[.slice (some ⟨m3, 0, none⟩) 2 2, .slice (some ⟨m6, 0, none⟩) 1 1] 88)) vy7.heap.size #[.slice (some ⟨m3, 0, none⟩) 2 2, .slice (some ⟨m6, 0, none⟩) 1 1] 88 := BK.new _ _ _
     refine hK _ _ (fun _ => ey15) ?_
     clear hK K hnx
     generalize (vy7.alloc (.cells #[.slice (some ⟨m3, 0, none⟩) 2 2, .slice (some ⟨m6, 0, none⟩) 1 1] 88)) = vy17 at *
     obtain ⟨gbb, hgbb⟩ : ∃ g, vy7.heap.size = g := ⟨_, rfl⟩
     have hqbb : Ws2.heap.size ≤ gbb := by omega
     rw [hgbb] at bb
     try rw [hgbb]
     clear hgbb
     refine any_run1 (i := 2) (by kernel_rfl) (by rfl) (by kernel_rfl) ?_
     intro K hK
     have qy19 := ey15.size
     have ey18 : Below Ws2.heap.size Ws2 (vy17.alloc (.cells #[.int .i64 100, .int .i64 170, .int .i64 150, .int .i64 300] 33)) := Below.alloc ey15 ey15.size _
     have hnx : Below vy17.heap.size vy17 (vy17.alloc (.cells #[.int .i64 100, .int .i64 170, .int .i64 150, .int .i64 300] 33)) := Below.alloc (Below.refl _ _) (Nat.le_refl _) _
     go_wp2_with fail
     replace bb := bb.below hnx bb.lt
     have ba : BK (vy17.alloc (.cells #[.int .i64 100, .int .i64 170, .int .i64 150, .int .i64 300] 33)) vy17.heap.size #[.int .i64 100, .int .i64 170, .int .i64 150, .int .i64 300] 33 := BK.new _ _ _
     refine hK _ _ (fun _ => ey18) ?_
     clear hK K hnx
     generalize (vy17.alloc (.cells #[.int .i64 100, .int .i64 170, .int .i64 150, .int .i64 300] 33)) = vy20 at *
     obtain ⟨gba, hgba⟩ : ∃ g, vy17.heap.size = g := ⟨_, rfl⟩
     have hqba : Ws2.heap.size ≤ gba := by omega
     rw [hgba] at ba
     try rw [hgba]
     clear hgba
     refine any_tk 6 ?_
     refine any_run1 (i := 7) (by kernel_rfl) (by rfl) (by kernel_rfl) ?_
     intro K hK
     have hbz := ey18
     clear ls1 s1c0
     clear ls2 s2c0
     replace hC : Below n0 w vy20 := hC.trans (hbz.mono (by have := hC.size; omega))
     replace rs := rs.below hbz rs.lt
     replace k1 := k1.below hbz k1.lt
     replace k2 := k2.below hbz k2.lt
     replace w1 := w1.below hbz w1.lt
     replace s1 := s1.below hbz s1.lt
     replace k3 := k3.below hbz k3.lt
     replace w2 := w2.below hbz w2.lt
     replace s2 := s2.below hbz s2.lt
     clear hbz
     have lrs := rs.lt
     have rsc0 := rs.cell 0
     have rsc1 := rs.cell 1
     simp at rsc0 rsc1
     have rsf0 := rs.frozen 0
     have rsf1 := rs.frozen 1
     go_wp2_with fail
     refine hK _ _ (fun hx => (Bool.false_ne_true (hx.symm.trans (by kernel_rfl))).elim) ?_
     clear hK K
     refine any_done (by kernel_rfl) (NoPanic.normal ?_)
     go_wp2_with fail
     clear lrs rsc0 rsc1
     clear rsf0 rsf1
     skip
     skip
     skip
     skip
     skip
     have x_k1 : BK ((vy20.setCell ⟨n0, 0, none⟩ (.slice (some ⟨gba, 0, none⟩) 2 2)).setCell ⟨n0, 1, none⟩ (.slice (some ⟨gbb, 0, none⟩) 2 2)) m1 _ _ := ((BK.far k1 (p := ⟨n0, 0, none⟩) (bk_ne k1 rs (by decide)) (.slice (some ⟨gba, 0, none⟩) 2 2)).far (p := ⟨n0, 1, none⟩) (bk_ne k1 rs (by decide)) (.slice (some ⟨gbb, 0, none⟩) 2 2))
     have x_k2 : BK ((vy20.setCell ⟨n0, 0, none⟩ (.slice (some ⟨gba, 0, none⟩) 2 2)).setCell ⟨n0, 1, none⟩ (.slice (some ⟨gbb, 0, none⟩) 2 2)) m2 _ _ := ((BK.far k2 (p := ⟨n0, 0, none⟩) (bk_ne k2 rs (by decide)) (.slice (some ⟨gba, 0, none⟩) 2 2)).far (p := ⟨n0, 1, none⟩) (bk_ne k2 rs (by decide)) (.slice (some ⟨gbb, 0, none⟩) 2 2))
     have x_w1 : BK ((vy20.setCell ⟨n0, 0, none⟩ (.slice (some ⟨gba, 0, none⟩) 2 2)).setCell ⟨n0, 1, none⟩ (.slice (some ⟨gbb, 0, none⟩) 2 2)) m3 _ _ := ((BK.far w1 (p := ⟨n0, 0, none⟩) (bk_ne w1 rs (by decide)) (.slice (some ⟨gba, 0, none⟩) 2 2)).far (p := ⟨n0, 1, none⟩) (bk_ne w1 rs (by decide)) (.slice (some ⟨gbb, 0, none⟩) 2 2))
     have x_k3 : BK ((vy20.setCell ⟨n0, 0, none⟩ (.slice (some ⟨gba, 0, none⟩) 2 2)).setCell ⟨n0, 1, none⟩ (.slice (some ⟨gbb, 0, none⟩) 2 2)) m5 _ _ := ((BK.far k3 (p := ⟨n0, 0, none⟩) (bk_ne k3 rs (by decide)) (.slice (some ⟨gba, 0, none⟩) 2 2)).far (p := ⟨n0, 1, none⟩) (bk_ne k3 rs (by decide)) (.slice (some ⟨gbb, 0, none⟩) 2 2))
     have x_w2 : BK ((vy20.setCell ⟨n0, 0, none⟩ (.slice (some ⟨gba, 0, none⟩) 2 2)).setCell ⟨n0, 1, none⟩ (.slice (some ⟨gbb, 0, none⟩) 2 2)) m6 _ _ := ((BK.far w2 (p := ⟨n0, 0, none⟩) (bk_ne w2 rs (by decide)) (.slice (some ⟨gba, 0, none⟩) 2 2)).far (p := ⟨n0, 1, none⟩) (bk_ne w2 rs (by decide)) (.slice (some ⟨gbb, 0, none⟩) 2 2))
     have x_ba : BK ((vy20.setCell ⟨n0, 0, none⟩ (.slice (some ⟨gba, 0, none⟩) 2 2)).setCell ⟨n0, 1, none⟩ (.slice (some ⟨gbb, 0, none⟩) 2 2)) gba _ _ := ((BK.far ba (p := ⟨n0, 0, none⟩) (bk_ne ba rs (by decide)) (.slice (some ⟨gba, 0, none⟩) 2 2)).far (p := ⟨n0, 1, none⟩) (bk_ne ba rs (by decide)) (.slice (some ⟨gbb, 0, none⟩) 2 2))
     have x_bb : BK ((vy20.setCell ⟨n0, 0, none⟩ (.slice (some ⟨gba, 0, none⟩) 2 2)).setCell ⟨n0, 1, none⟩ (.slice (some ⟨gbb, 0, none⟩) 2 2)) gbb _ _ := ((BK.far bb (p := ⟨n0, 0, none⟩) (bk_ne bb rs (by decide)) (.slice (some ⟨gba, 0, none⟩) 2 2)).far (p := ⟨n0, 1, none⟩) (bk_ne bb rs (by decide)) (.slice (some ⟨gbb, 0, none⟩) 2 2))
     have hbx : Below n0 w ((vy20.setCell ⟨n0, 0, none⟩ (.slice (some ⟨gba, 0, none⟩) 2 2)).setCell ⟨n0, 1, none⟩ (.slice (some ⟨gbb, 0, none⟩) 2 2)) := Below.setCell (Below.setCell hC (Nat.le_refl _) _) (Nat.le_refl _) _
     have rs2 := (rs.set 0 (.slice (some ⟨gba, 0, none⟩) 2 2)).set 1 (.slice (some ⟨gbb, 0, none⟩) 2 2)
     simp at rs2
     have z0 := rs2.cell 0
     have z1 := rs2.cell 1
     simp at z0 z1
     exact bodyPost_ret (v := .agg #[.slice (some ⟨gba, 0, none⟩) 2 2, .slice (some ⟨gbb, 0, none⟩) 2 2]) (by simp [results, Try.results52, go_sem, z0, z1]) rfl ⟨_, _, rfl, rs_new x_ba x_ba.lt rfl, house_rp x_k1 x_k2 x_w1 x_k3 x_w2 x_bb (Nat.le_refl _), by first | exact hbx | (rw [hn0]; exact hbx)⟩
   ·skip
    intro K hK
    have qy22 := ey3.size
    have ey21 : Below Ws2.heap.size Ws2 (vy4.alloc (.cells #[.slice (some ⟨m3, 0, none⟩) 2 2, .slice (some ⟨m6, 0, none⟩) 1 1] 88)) := Below.alloc ey3 ey3.size _
    have hnx : Below vy4.heap.size vy4 (vy4.alloc (.cells #[.slice (some ⟨m3, 0, none⟩) 2 2, .slice (some ⟨m6, 0, none⟩) 1 1] 88)) := Below.alloc (Below.refl _ _) (Nat.le_refl _) _
    go_wp2_with fail
    have bb : BK (vy4.alloc (.cells #[.slice (some ⟨m3, 0, none⟩) 2 2, .slice (some ⟨m6, 0, none⟩) 1 1] 88)) vy4.heap.size #[.slice (some ⟨m3, 0, none⟩) 2 2, .slice (some ⟨m6, 0, none⟩) 1 1] 88 := BK.new _ _ _
    refine hK _ _ (fun _ => ey21) ?_
    clear hK K hnx
    generalize (vy4.alloc (.cells #[.slice (some ⟨m3, 0, none⟩) 2 2, .slice (some ⟨m6, 0, none⟩) 1 1] 88)) = vy23 at *
    obtain ⟨gbb, hgbb⟩ : ∃ g, vy4.heap.size = g := ⟨_, rfl⟩
    have hqbb : Ws2.heap.size ≤ gbb := by omega
    rw [hgbb] at bb
    try rw [hgbb]
    clear hgbb
    refine any_run1 (i := 1) (by kernel_rfl) (by rfl) (by kernel_rfl) ?_
    intro K hK
    have qy26 := ey21.size
    go_wp2_with fail
    refine (rg_any 150 300 _).mono ?_
    rintro e vy25 ⟨rfl, hb⟩
    have ey24 : Below Ws2.heap.size Ws2 vy25 := ey21.trans (hb.mono ey21.size)
    replace bb := bb.below hb bb.lt
    clear hb
    refine hK _ _ (fun _ => ey24) ?_
    clear hK K
    refine any_run1 (i := 2) (by kernel_rfl) (by rfl) (by kernel_rfl) ?_
    intro K hK
    have qy28 := ey24.size
    have ey27 : Below Ws2.heap.size Ws2 (vy25.alloc (.cells #[.int .i64 100, .int .i64 170, .int .i64 150, .int .i64 300] 33)) := Below.alloc ey24 ey24.size _
    have hnx : Below vy25.heap.size vy25 (vy25.alloc (.cells #[.int .i64 100, .int .i64 170, .int .i64 150, .int .i64 300] 33)) := Below.alloc (Below.refl _ _) (Nat.le_refl _) _
    go_wp2_with fail
    replace bb := bb.below hnx bb.lt
    have ba : BK (vy25.alloc (.cells #[.int .i64 100, .int .i64 170, .int .i64 150, .int .i64 300] 33)) vy25.heap.size #[.int .i64 100, .int .i64 170, .int .i64 150, .int .i64 300] 33 := BK.new _ _ _
    refine hK _ _ (fun _ => ey27) ?_
    clear hK K hnx
    generalize (vy25.alloc (.cells #[.int .i64 100, .int .i64 170, .int .i64 150, .int .i64 300] 33)) = vy29 at *
    obtain ⟨gba, hgba⟩ : ∃ g, vy25.heap.size = g := ⟨_, rfl⟩
    have hqba : Ws2.heap.size ≤ gba := by omega
    rw [hgba] at ba
    try rw [hgba]
    clear hgba
    refine any_tk 6 ?_
    refine any_run1 (i := 7) (by kernel_rfl) (by rfl) (by kernel_rfl) ?_
    intro K hK
    have hbz := ey27
    clear ls1 s1c0
    clear ls2 s2c0
    replace hC : Below n0 w vy29 := hC.trans (hbz.mono (by have := hC.size; omega))
    replace rs := rs.below hbz rs.lt
    replace k1 := k1.below hbz k1.lt
    replace k2 := k2.below hbz k2.lt
    replace w1 := w1.below hbz w1.lt
    replace s1 := s1.below hbz s1.lt
    replace k3 := k3.below hbz k3.lt
    replace w2 := w2.below hbz w2.lt
    replace s2 := s2.below hbz s2.lt
    clear hbz
    have lrs := rs.lt
    have rsc0 := rs.cell 0
    have rsc1 := rs.cell 1
    simp at rsc0 rsc1
    have rsf0 := rs.frozen 0
    have rsf1 := rs.frozen 1
    go_wp2_with fail
    refine hK _ _ (fun hx => (Bool.false_ne_true (hx.symm.trans (by kernel_rfl))).elim) ?_
    clear hK K
    refine any_done (by kernel_rfl) (NoPanic.normal ?_)
    go_wp2_with fail
    clear lrs rsc0 rsc1
    clear rsf0 rsf1
    skip
    skip
    skip
    skip
    skip
    have x_k1 : BK ((vy29.setCell ⟨n0, 0, none⟩ (.slice (some ⟨gba, 0, none⟩) 2 2)).setCell ⟨n0, 1, none⟩ (.slice (some ⟨gbb, 0, none⟩) 2 2)) m1 _ _ := ((BK.far k1 (p := ⟨n0, 0, none⟩) (bk_ne k1 rs (by decide)) (.slice (some ⟨gba, 0, none⟩) 2 2)).far (p := ⟨n0, 1, none⟩) (bk_ne k1 rs (by decide)) (.slice (some ⟨gbb, 0, none⟩) 2 2))
    have x_k2 : BK ((vy29.setCell ⟨n0, 0, none⟩ (.slice (some ⟨gba, 0, none⟩) 2 2)).setCell ⟨n0, 1, none⟩ (.slice (some ⟨gbb, 0, none⟩) 2 2)) m2 _ _ := ((BK.far k2 (p := ⟨n0, 0, none⟩) (bk_ne k2 rs (by decide)) (.slice (some ⟨gba, 0, none⟩) 2 2)).far (p := ⟨n0, 1, none⟩) (bk_ne k2 rs (by decide)) (.slice (some ⟨gbb, 0, none⟩) 2 2))
    have x_w1 : BK ((vy29.setCell ⟨n0, 0, none⟩ (.slice (some ⟨gba, 0, none⟩) 2 2)).setCell ⟨n0, 1, none⟩ (.slice (some ⟨gbb, 0, none⟩) 2 2)) m3 _ _ := ((BK.far w1 (p := ⟨n0, 0, none⟩) (bk_ne w1 rs (by decide)) (.slice (some ⟨gba, 0, none⟩) 2 2)).far (p := ⟨n0, 1, none⟩) (bk_ne w1 rs (by decide)) (.slice (some ⟨gbb, 0, none⟩) 2 2))
    have x_k3 : BK ((vy29.setCell ⟨n0, 0, none⟩ (.slice (some ⟨gba, 0, none⟩) 2 2)).setCell ⟨n0, 1, none⟩ (.slice (some ⟨gbb, 0, none⟩) 2 2)) m5 _ _ := ((BK.far k3 (p := ⟨n0, 0, none⟩) (bk_ne k3 rs (by decide)) (.slice (some ⟨gba, 0, none⟩) 2 2)).far (p := ⟨n0, 1, none⟩) (bk_ne k3 rs (by decide)) (.slice (some ⟨gbb, 0, none⟩) 2 2))
    have x_w2 : BK ((vy29.setCell ⟨n0, 0, none⟩ (.slice (some ⟨gba, 0, none⟩) 2 2)).setCell ⟨n0, 1, none⟩ (.slice (some ⟨gbb, 0, none⟩) 2 2)) m6 _ _ := ((BK.far w2 (p := ⟨n0, 0, none⟩) (bk_ne w2 rs (by decide)) (.slice (some ⟨gba, 0, none⟩) 2 2)).far (p := ⟨n0, 1, none⟩) (bk_ne w2 rs (by decide)) (.slice (some ⟨gbb, 0, none⟩) 2 2))
    have x_ba : BK ((vy29.setCell ⟨n0, 0, none⟩ (.slice (some ⟨gba, 0, none⟩) 2 2)).setCell ⟨n0, 1, none⟩ (.slice (some ⟨gbb, 0, none⟩) 2 2)) gba _ _ := ((BK.far ba (p := ⟨n0, 0, none⟩) (bk_ne ba rs (by decide)) (.slice (some ⟨gba, 0, none⟩) 2 2)).far (p := ⟨n0, 1, none⟩) (bk_ne ba rs (by decide)) (.slice (some ⟨gbb, 0, none⟩) 2 2))
    have x_bb : BK ((vy29.setCell ⟨n0, 0, none⟩ (.slice (some ⟨gba, 0, none⟩) 2 2)).setCell ⟨n0, 1, none⟩ (.slice (some ⟨gbb, 0, none⟩) 2 2)) gbb _ _ := ((BK.far bb (p := ⟨n0, 0, none⟩) (bk_ne bb rs (by decide)) (.slice (some ⟨gba, 0, none⟩) 2 2)).far (p := ⟨n0, 1, none⟩) (bk_ne bb rs (by decide)) (.slice (some ⟨gbb, 0, none⟩) 2 2))
    have hbx : Below n0 w ((vy29.setCell ⟨n0, 0, none⟩ (.slice (some ⟨gba, 0, none⟩) 2 2)).setCell ⟨n0, 1, none⟩ (.slice (some ⟨gbb, 0, none⟩) 2 2)) := Below.setCell (Below.setCell hC (Nat.le_refl _) _) (Nat.le_refl _) _
    have rs2 := (rs.set 0 (.slice (some ⟨gba, 0, none⟩) 2 2)).set 1 (.slice (some ⟨gbb, 0, none⟩) 2 2)
    simp at rs2
    have z0 := rs2.cell 0
    have z1 := rs2.cell 1
    simp at z0 z1
    exact bodyPost_ret (v := .agg #[.slice (some ⟨gba, 0, none⟩) 2 2, .slice (some ⟨gbb, 0, none⟩) 2 2]) (by simp [results, Try.results52, go_sem, z0, z1]) rfl ⟨_, _, rfl, rs_new x_ba x_ba.lt rfl, house_rp x_k1 x_k2 x_w1 x_k3 x_w2 x_bb (Nat.le_refl _), by first | exact hbx | (rw [hn0]; exact hbx)⟩
  ·skip
   intro K hK
   have qy31 := dy1.size
   have ey30 : Below Ws2.heap.size Ws2 (uy2.alloc (.cells #[.slice (some ⟨m3, 0, none⟩) 2 2, .slice (some ⟨m6, 0, none⟩) 1 1] 88)) := Below.alloc dy1 dy1.size _
   have hnx : Below uy2.heap.size uy2 (uy2.alloc (.cells #[.slice (some ⟨m3, 0, none⟩) 2 2, .slice (some ⟨m6, 0, none⟩) 1 1] 88)) := Below.alloc (Below.refl _ _) (Nat.le_refl _) _
   go_wp2_with fail
   have bb : BK (uy2.alloc (.cells #[.slice (some ⟨m3, 0, none⟩) 2 2, .slice (some ⟨m6, 0, none⟩) 1 1] 88)) uy2.heap.size #[.slice (some ⟨m3, 0, none⟩) 2 2, .slice (some ⟨m6, 0, none⟩) 1 1] 88 := BK.new _ _ _
   refine hK _ _ (fun _ => ey30) ?_
   clear hK K hnx
   generalize (uy2.alloc (.cells #[.slice (some ⟨m3, 0, none⟩) 2 2, .slice (some ⟨m6, 0, none⟩) 1 1] 88)) = vy32 at *
   obtain ⟨gbb, hgbb⟩ : ∃ g, uy2.heap.size = g := ⟨_, rfl⟩
   have hqbb : Ws2.heap.size ≤ gbb := by omega
   rw [hgbb] at bb
   try rw [hgbb]
   clear hgbb
   refine any_run1 (i := 0) (by kernel_rfl) (by rfl) (by kernel_rfl) ?_
   intro K hK
   have qy35 := ey30.size
   go_wp2_with fail
   refine (rg_any 100 170 _).mono ?_
   rintro e vy34 ⟨rfl, hb⟩
   have ey33 : Below Ws2.heap.size Ws2 vy34 := ey30.trans (hb.mono ey30.size)
   replace bb := bb.below hb bb.lt
   clear hb
   refine hK _ _ (fun _ => ey33) ?_
   clear hK K
   refine any_run1 (i := 1) (by kernel_rfl) (by rfl) (by kernel_rfl) ?_
   intro K hK
   have qy38 := ey33.size
   go_wp2_with fail
   refine (rg_any 150 300 _).mono ?_
   rintro e vy37 ⟨rfl, hb⟩
   have ey36 : Below Ws2.heap.size Ws2 vy37 := ey33.trans (hb.mono ey33.size)
   replace bb := bb.below hb bb.lt
   clear hb
   refine hK _ _ (fun _ => ey36) ?_
   clear hK K
   refine any_run1 (i := 2) (by kernel_rfl) (by rfl) (by kernel_rfl) ?_
   intro K hK
   have qy40 := ey36.size
   have ey39 : Below Ws2.heap.size Ws2 (vy37.alloc (.cells #[.int .i64 100, .int .i64 170, .int .i64 150, .int .i64 300] 33)) := Below.alloc ey36 ey36.size _
   have hnx : Below vy37.heap.size vy37 (vy37.alloc (.cells #[.int .i64 100, .int .i64 170, .int .i64 150, .int .i64 300] 33)) := Below.alloc (Below.refl _ _) (Nat.le_refl _) _
   go_wp2_with fail
   replace bb := bb.below hnx bb.lt
   have ba : BK (vy37.alloc (.cells #[.int .i64 100, .int .i64 170, .int .i64 150, .int .i64 300] 33)) vy37.heap.size #[.int .i64 100, .int .i64 170, .int .i64 150, .int .i64 300] 33 := BK.new _ _ _
   refine hK _ _ (fun _ => ey39) ?_
   clear hK K hnx
   generalize (vy37.alloc (.cells #[.int .i64 100, .int .i64 170, .int .i64 150, .int .i64 300] 33)) = vy41 at *
   obtain ⟨gba, hgba⟩ : ∃ g, vy37.heap.size = g := ⟨_, rfl⟩
   have hqba : Ws2.heap.size ≤ gba := by omega
   rw [hgba] at ba
   try rw [hgba]
   clear hgba
   refine any_tk 6 ?_
   refine any_run1 (i := 7) (by kernel_rfl) (by rfl) (by kernel_rfl) ?_
   intro K hK
   have hbz := ey39
   clear ls1 s1c0
   clear ls2 s2c0
   replace hC : Below n0 w vy41 := hC.trans (hbz.mono (by have := hC.size; omega))
   replace rs := rs.below hbz rs.lt
   replace k1 := k1.below hbz k1.lt
   replace k2 := k2.below hbz k2.lt
   replace w1 := w1.below hbz w1.lt
   replace s1 := s1.below hbz s1.lt
   replace k3 := k3.below hbz k3.lt
   replace w2 := w2.below hbz w2.lt
   replace s2 := s2.below hbz s2.lt
   clear hbz
   have lrs := rs.lt
   have rsc0 := rs.cell 0
   have rsc1 := rs.cell 1
   simp at rsc0 rsc1
   have rsf0 := rs.frozen 0
   have rsf1 := rs.frozen 1
   go_wp2_with fail
   refine hK _ _ (fun hx => (Bool.false_ne_true (hx.symm.trans (by kernel_rfl))).elim) ?_
   clear hK K
   refine any_done (by kernel_rfl) (NoPanic.normal ?_)
   go_wp2_with fail
   clear lrs rsc0 rsc1
   clear rsf0 rsf1
   skip
   skip
   skip
   skip
   skip
   have x_k1 : BK ((vy41.setCell ⟨n0, 0, none⟩ (.slice (some ⟨gba, 0, none⟩) 2 2)).setCell ⟨n0, 1, none⟩ (.slice (some ⟨gbb, 0, none⟩) 2 2)) m1 _ _ := ((BK.far k1 (p := ⟨n0, 0, none⟩) (bk_ne k1 rs (by decide)) (.slice (some ⟨gba, 0, none⟩) 2 2)).far (p := ⟨n0, 1, none⟩) (bk_ne k1 rs (by decide)) (.slice (some ⟨gbb, 0, none⟩) 2 2))
   have x_k2 : BK ((vy41.setCell ⟨n0, 0, none⟩ (.slice (some ⟨gba, 0, none⟩) 2 2)).setCell ⟨n0, 1, none⟩ (.slice (some ⟨gbb, 0, none⟩) 2 2)) m2 _ _ := ((BK.far k2 (p := ⟨n0, 0, none⟩) (bk_ne k2 rs (by decide)) (.slice (some ⟨gba, 0, none⟩) 2 2)).far (p := ⟨n0, 1, none⟩) (bk_ne k2 rs (by decide)) (.slice (some ⟨gbb, 0, none⟩) 2 2))
   have x_w1 : BK ((vy41.setCell ⟨n0, 0, none⟩ (.slice (some ⟨gba, 0, none⟩) 2 2)).setCell ⟨n0, 1, none⟩ (.slice (some ⟨gbb, 0, none⟩) 2 2)) m3 _ _ := ((BK.far w1 (p := ⟨n0, 0, none⟩) (bk_ne w1 rs (by decide)) (.slice (some ⟨gba, 0, none⟩) 2 2)).far (p := ⟨n0, 1, none⟩) (bk_ne w1 rs (by decide)) (.slice (some ⟨gbb, 0, none⟩) 2 2))
   have x_k3 : BK ((vy41.setCell ⟨n0, 0, none⟩ (.slice (some ⟨gba, 0, none⟩) 2 2)).setCell ⟨n0, 1, none⟩ (.slice (some ⟨gbb, 0, none⟩) 2 2)) m5 _ _ := ((BK.far k3 (p := ⟨n0, 0, none⟩) (bk_ne k3 rs (by decide)) (.slice (some ⟨gba, 0, none⟩) 2 2)).far (p := ⟨n0, 1, none⟩) (bk_ne k3 rs (by decide)) (.slice (some ⟨gbb, 0, none⟩) 2 2))
   have x_w2 : BK ((vy41.setCell ⟨n0, 0, none⟩ (.slice (some ⟨gba, 0, none⟩) 2 2)).setCell ⟨n0, 1, none⟩ (.slice (some ⟨gbb, 0, none⟩) 2 2)) m6 _ _ := ((BK.far w2 (p := ⟨n0, 0, none⟩) (bk_ne w2 rs (by decide)) (.slice (some ⟨gba, 0, none⟩) 2 2)).far (p := ⟨n0, 1, none⟩) (bk_ne w2 rs (by decide)) (.slice (some ⟨gbb, 0, none⟩) 2 2))
   have x_ba : BK ((vy41.setCell ⟨n0, 0, none⟩ (.slice (some ⟨gba, 0, none⟩) 2 2)).setCell ⟨n0, 1, none⟩ (.slice (some ⟨gbb, 0, none⟩) 2 2)) gba _ _ := ((BK.far ba (p := ⟨n0, 0, none⟩) (bk_ne ba rs (by decide)) (.slice (some ⟨gba, 0, none⟩) 2 2)).far (p := ⟨n0, 1, none⟩) (bk_ne ba rs (by decide)) (.slice (some ⟨gbb, 0, none⟩) 2 2))
   have x_bb : BK ((vy41.setCell ⟨n0, 0, none⟩ (.slice (some ⟨gba, 0, none⟩) 2 2)).setCell ⟨n0, 1, none⟩ (.slice (some ⟨gbb, 0, none⟩) 2 2)) gbb _ _ := ((BK.far bb (p := ⟨n0, 0, none⟩) (bk_ne bb rs (by decide)) (.slice (some ⟨gba, 0, none⟩) 2 2)).far (p := ⟨n0, 1, none⟩) (bk_ne bb rs (by decide)) (.slice (some ⟨gbb, 0, none⟩) 2 2))
   have hbx : Below n0 w ((vy41.setCell ⟨n0, 0, none⟩ (.slice (some ⟨gba, 0, none⟩) 2 2)).setCell ⟨n0, 1, none⟩ (.slice (some ⟨gbb, 0, none⟩) 2 2)) := Below.setCell (Below.setCell hC (Nat.le_refl _) _) (Nat.le_refl _) _
   have rs2 := (rs.set 0 (.slice (some ⟨gba, 0, none⟩) 2 2)).set 1 (.slice (some ⟨gbb, 0, none⟩) 2 2)
   simp at rs2
   have z0 := rs2.cell 0
   have z1 := rs2.cell 1
   simp at z0 z1
   exact bodyPost_ret (v := .agg #[.slice (some ⟨gba, 0, none⟩) 2 2, .slice (some ⟨gbb, 0, none⟩) 2 2]) (by simp [results, Try.results52, go_sem, z0, z1]) rfl ⟨_, _, rfl, rs_new x_ba x_ba.lt rfl, house_rp x_k1 x_k2 x_w1 x_k3 x_w2 x_bb (Nat.le_refl _), by first | exact hbx | (rw [hn0]; exact hbx)⟩
end Go.Proofs.Ytkibdciomheekaa

set_option linter.all false
namespace Go.Proofs.Ytkibdciomheekaa
open Go.RowKit Hp

def agreeB (bars : List Rg) (ss : List Stp) (b : Int) (ks hs : List Int) (m : Rg) : Bool := decide (histE bars ss b ks hs = 0) && inR (nthI hs (hs.length - 1)) m
theorem histE_pos {bars : List Rg} {ss : List Stp} {b : Int} {ks hs : List Int} (h : histE bars ss b ks hs = 0) : 0 < hs.length := by
  unfold histE at h
  split at h
  · rename_i q
    exact (q h).elim
  · split at h
    · cases h
    · omega

set_option maxHeartbeats 8000000 in
set_option maxRecDepth 100000 in
theorem agrees_any (bars : List Rg) (ss : List Stp) (b : Int) (ks hs : List Int) (m : Rg) (vh vb vs vk : Value) (w : World) (hf : Fit bars ss) (hkl : ks.length ≤ 1000) (hB : RR w w.heap.size vb bars) (hS : RP w w.heap.size vs ss) (hR : RI w w.heap.size vk ks) (hH : RI w w.heap.size vh hs) (hhl : hs.length ≤ 1000) :
    Calls Try.prog 31 #[.agg #[vb, vs], .agg #[.int .i64 b, vk], vh, rV m] w fun e w' => e = .returned (.bool (agreeB bars ss b ks hs m)) ∧ Below w.heap.size w w' := by
  have HF := Lib.hid hf
  clear hf
  obtain ⟨Ab, cb, rfl⟩ := hB.slice
  obtain ⟨As, cs, rfl⟩ := hS.slice
  obtain ⟨Ak, ck, rfl⟩ : ∃ A c, vk = .slice A ks.length c := by
    obtain ⟨A, c, b, o, hv, _⟩ := hR
    exact ⟨A, c, hv⟩
  obtain ⟨Ah, ch, rfl⟩ : ∃ A c, vh = .slice A hs.length c := by
    obtain ⟨A, c, b, o, hv, _⟩ := hH
    exact ⟨A, c, hv⟩
  obtain ⟨mlo, mhi⟩ := m
  unfold rV
  obtain ⟨n0, hn0⟩ : ∃ n, w.heap.size = n := ⟨_, rfl⟩
  have hC : Below n0 w w := Below.refl _ _
  go_enter Try.func31, Try.ntmps31
  go_upto_region 1 with fail
  have hqbx : n0 ≤ n0 := by have := hC.size; omega
  have bx : BK (w.alloc (.cells #[.slice Ab bars.length cb, .slice As ss.length cs] 25)) (n0) #[.slice Ab bars.length cb, .slice As ss.length cs] 25 := BK.new' _ _ _ (n0) hn0
  have hsbx : (w.alloc (.cells #[.slice Ab bars.length cb, .slice As ss.length cs] 25)).heap.size = n0 + 1 := by simp [hn0]
  replace hC : Below n0 w (w.alloc (.cells #[.slice Ab bars.length cb, .slice As ss.length cs] 25)) := Below.alloc hC (by have := hC.size; omega) _
  replace hB := (RS.below hB (w' := (w.alloc (.cells #[.slice Ab bars.length cb, .slice As ss.length cs] 25))) (Below.alloc (Below.refl _ _) (Nat.le_refl _) _)).more (B' := (w.alloc (.cells #[.slice Ab bars.length cb, .slice As ss.length cs] 25)).heap.size) (by simp)
  replace hS := (RP.below hS (w' := (w.alloc (.cells #[.slice Ab bars.length cb, .slice As ss.length cs] 25))) (Below.alloc (Below.refl _ _) (Nat.le_refl _) _)).more (B' := (w.alloc (.cells #[.slice Ab bars.length cb, .slice As ss.length cs] 25)).heap.size) (by simp)
  replace hR := (RS.below hR (w' := (w.alloc (.cells #[.slice Ab bars.length cb, .slice As ss.length cs] 25))) (Below.alloc (Below.refl _ _) (Nat.le_refl _) _)).more (B' := (w.alloc (.cells #[.slice Ab bars.length cb, .slice As ss.length cs] 25)).heap.size) (by simp)
  replace hH := (RS.below hH (w' := (w.alloc (.cells #[.slice Ab bars.length cb, .slice As ss.length cs] 25))) (Below.alloc (Below.refl _ _) (Nat.le_refl _) _)).more (B' := (w.alloc (.cells #[.slice Ab bars.length cb, .slice As ss.length cs] 25)).heap.size) (by simp)
  generalize (w.alloc (.cells #[.slice Ab bars.length cb, .slice As ss.length cs] 25)) = Wbx at *
  have hqcx : n0 ≤ n0 + 1 := by have := hC.size; omega
  have cx : BK (Wbx.alloc (.cells #[.int .i64 b, .slice Ak ks.length ck] 42)) (n0 + 1) #[.int .i64 b, .slice Ak ks.length ck] 42 := BK.new' _ _ _ (n0 + 1) hsbx
  have hscx : (Wbx.alloc (.cells #[.int .i64 b, .slice Ak ks.length ck] 42)).heap.size = n0 + 1 + 1 := by simp [hsbx]
  replace hC : Below n0 w (Wbx.alloc (.cells #[.int .i64 b, .slice Ak ks.length ck] 42)) := Below.alloc hC (by have := hC.size; omega) _
  replace hB := (RS.below hB (w' := (Wbx.alloc (.cells #[.int .i64 b, .slice Ak ks.length ck] 42))) (Below.alloc (Below.refl _ _) (Nat.le_refl _) _)).more (B' := (Wbx.alloc (.cells #[.int .i64 b, .slice Ak ks.length ck] 42)).heap.size) (by simp)
  replace hS := (RP.below hS (w' := (Wbx.alloc (.cells #[.int .i64 b, .slice Ak ks.length ck] 42))) (Below.alloc (Below.refl _ _) (Nat.le_refl _) _)).more (B' := (Wbx.alloc (.cells #[.int .i64 b, .slice Ak ks.length ck] 42)).heap.size) (by simp)
  replace hR := (RS.below hR (w' := (Wbx.alloc (.cells #[.int .i64 b, .slice Ak ks.length ck] 42))) (Below.alloc (Below.refl _ _) (Nat.le_refl _) _)).more (B' := (Wbx.alloc (.cells #[.int .i64 b, .slice Ak ks.length ck] 42)).heap.size) (by simp)
  replace hH := (RS.below hH (w' := (Wbx.alloc (.cells #[.int .i64 b, .slice Ak ks.length ck] 42))) (Below.alloc (Below.refl _ _) (Nat.le_refl _) _)).more (B' := (Wbx.alloc (.cells #[.int .i64 b, .slice Ak ks.length ck] 42)).heap.size) (by simp)
  replace bx := bx.alloc (.cells #[.int .i64 b, .slice Ak ks.length ck] 42)
  generalize (Wbx.alloc (.cells #[.int .i64 b, .slice Ak ks.length ck] 42)) = Wcx at *
  clear hsbx
  have hqmx : n0 ≤ n0 + 1 + 1 := by have := hC.size; omega
  have mx : BK (Wcx.alloc (.cells #[.int .i64 mlo, .int .i64 mhi] 33)) (n0 + 1 + 1) #[.int .i64 mlo, .int .i64 mhi] 33 := BK.new' _ _ _ (n0 + 1 + 1) hscx
  have hsmx : (Wcx.alloc (.cells #[.int .i64 mlo, .int .i64 mhi] 33)).heap.size = n0 + 1 + 1 + 1 := by simp [hscx]
  replace hC : Below n0 w (Wcx.alloc (.cells #[.int .i64 mlo, .int .i64 mhi] 33)) := Below.alloc hC (by have := hC.size; omega) _
  replace hB := (RS.below hB (w' := (Wcx.alloc (.cells #[.int .i64 mlo, .int .i64 mhi] 33))) (Below.alloc (Below.refl _ _) (Nat.le_refl _) _)).more (B' := (Wcx.alloc (.cells #[.int .i64 mlo, .int .i64 mhi] 33)).heap.size) (by simp)
  replace hS := (RP.below hS (w' := (Wcx.alloc (.cells #[.int .i64 mlo, .int .i64 mhi] 33))) (Below.alloc (Below.refl _ _) (Nat.le_refl _) _)).more (B' := (Wcx.alloc (.cells #[.int .i64 mlo, .int .i64 mhi] 33)).heap.size) (by simp)
  replace hR := (RS.below hR (w' := (Wcx.alloc (.cells #[.int .i64 mlo, .int .i64 mhi] 33))) (Below.alloc (Below.refl _ _) (Nat.le_refl _) _)).more (B' := (Wcx.alloc (.cells #[.int .i64 mlo, .int .i64 mhi] 33)).heap.size) (by simp)
  replace hH := (RS.below hH (w' := (Wcx.alloc (.cells #[.int .i64 mlo, .int .i64 mhi] 33))) (Below.alloc (Below.refl _ _) (Nat.le_refl _) _)).more (B' := (Wcx.alloc (.cells #[.int .i64 mlo, .int .i64 mhi] 33)).heap.size) (by simp)
  replace bx := bx.alloc (.cells #[.int .i64 mlo, .int .i64 mhi] 33)
  replace cx := cx.alloc (.cells #[.int .i64 mlo, .int .i64 mhi] 33)
  generalize (Wcx.alloc (.cells #[.int .i64 mlo, .int .i64 mhi] 33)) = Wmx at *
  clear hscx
  clear hsmx
  generalize Wmx = W0 at *
  have lb := bx.lt
  have lc := cx.lt
  have lm := mx.lt
  have bx0 := bx.cell 0
  have bx1 := bx.cell 1
  simp at bx0 bx1
  have cx0 := cx.cell 0
  have cx1 := cx.cell 1
  simp at cx0 cx1
  have mx0 := mx.cell 0
  have mx1 := mx.cell 1
  simp at mx0 mx1
  refine wp_region_noPanic (plain_any [0, 1, 2, 4, 5, 6, 7, 8, 9, 10, 11, 12, 14, 15] (Below W0.heap.size W0) mixed ?_)
  refine any_tk 0 ?_
  refine any_tk 1 ?_
  refine any_tk 2 ?_
  have hd0 : Below W0.heap.size W0 W0.drew := Below.drew (Below.refl _ _)
  refine any_run1 (i := 3) (by kernel_rfl) (by rfl) (by kernel_rfl) ?_
  intro K3 hK3
  go_wp2_with fail
  refine (historyR_any bars ss b ks hs _ _ _ _ _ HF.out hkl ((RS.below hB hd0).more hd0.size) ((RP.below hS hd0).more hd0.size) ((RS.below hR hd0).more hd0.size) ((RS.below hH hd0).more hd0.size) hhl).mono ?_
  rintro e V1 ⟨rfl, hb1⟩
  have hb01 : Below W0.heap.size W0 V1 := hd0.trans hb1
  refine hK3 _ _ (fun _ => hb01) ?_
  clear hK3 K3 hb1
  have hC1 := hC.trans (hb01.mono (by have := hC.size; omega))
  obtain ⟨e, he⟩ : ∃ e, histE bars ss b ks hs = e := ⟨_, rfl⟩
  rw [he]
  by_cases e0 : e = 0
  case neg =>
    have HE := Lib.hid (show agreeB bars ss b ks hs ⟨mlo, mhi⟩ = false by unfold agreeB; rw [he, decide_eq_false e0]; rfl)
    have b1 : (e == 0) = false := beq_eq_false_iff_ne.2 e0
    clear he e0
    refine any_tk 4 ?_
    refine any_tk 5 ?_
    (refine any_take 6 undef (by rfl) (by kernel_rfl) (fun _ _ _ _ _ hx => hx.elim) (.inr ⟨by rfl, by rfl⟩) (by exact bel_of) ?_; simp only [List.getElem_toArray, List.getElem_cons_succ, List.getElem_cons_zero, Act.put, List.setIfInBounds_toArray, List.set_cons_succ, List.set_cons_zero])
    (refine any_take 7 undef (by rfl) (by kernel_rfl) (fun _ _ _ _ _ hx => hx.elim) (.inr ⟨by rfl, by rfl⟩) (by exact bel_of) ?_; simp only [List.getElem_toArray, List.getElem_cons_succ, List.getElem_cons_zero, Act.put, List.setIfInBounds_toArray, List.set_cons_succ, List.set_cons_zero])
    (refine any_take 8 undef (by rfl) (by kernel_rfl) (fun _ _ _ _ _ hx => hx.elim) (.inr ⟨by rfl, by rfl⟩) (by exact bel_of) ?_; simp only [List.getElem_toArray, List.getElem_cons_succ, List.getElem_cons_zero, Act.put, List.setIfInBounds_toArray, List.set_cons_succ, List.set_cons_zero])
    (refine any_take 9 undef (by rfl) (by kernel_rfl) (fun _ _ _ _ _ hx => hx.elim) (.inr ⟨by rfl, by rfl⟩) (by exact bel_of) ?_; simp only [List.getElem_toArray, List.getElem_cons_succ, List.getElem_cons_zero, Act.put, List.setIfInBounds_toArray, List.set_cons_succ, List.set_cons_zero])
    (refine any_take 10 undef (by rfl) (by kernel_rfl) (fun _ _ _ _ _ hx => hx.elim) (.inr ⟨by rfl, by rfl⟩) (by exact bel_of) ?_; simp only [List.getElem_toArray, List.getElem_cons_succ, List.getElem_cons_zero, Act.put, List.setIfInBounds_toArray, List.set_cons_succ, List.set_cons_zero])
    (refine any_take 11 undef (by rfl) (by kernel_rfl) (fun _ _ _ _ _ hx => hx.elim) (.inr ⟨by rfl, by rfl⟩) (by exact bel_of) ?_; simp only [List.getElem_toArray, List.getElem_cons_succ, List.getElem_cons_zero, Act.put, List.setIfInBounds_toArray, List.set_cons_succ, List.set_cons_zero])
    (refine any_take 12 undef (by rfl) (by kernel_rfl) (fun _ _ _ _ _ hx => hx.elim) (.inr ⟨by rfl, by rfl⟩) (by exact bel_of) ?_; simp only [List.getElem_toArray, List.getElem_cons_succ, List.getElem_cons_zero, Act.put, List.setIfInBounds_toArray, List.set_cons_succ, List.set_cons_zero])
    (refine any_skip1 (i := 13) (by kernel_rfl) (by rfl) (by rfl) hb01 ?_; simp only [List.getElem_toArray, List.getElem_cons_succ, List.getElem_cons_zero, Act.put, List.setIfInBounds_toArray, List.set_cons_succ, List.set_cons_zero])
    refine any_tk 14 ?_
    refine any_tk 15 ?_
    refine any_done (by kernel_rfl) (NoPanic.normal ?_)
    go_wp2_with fail
    go_ret
    exact ⟨ret_bool HE.out.symm, by (try rw [hn0]); exact hC1⟩
  subst e0
  have hp := histE_pos he
  have HE := Lib.hid he
  clear he
  obtain ⟨A2, c2, bh, oh, hve, hA, hc⟩ := RI.cells hH
  obtain ⟨rfl, hbh⟩ := hA (by omega)
  injection hve with q1 q2 q3
  subst q1 q3
  have d0 := hc (hs.length - 1) (by omega)
  obtain ⟨n, hn⟩ : ∃ n, hs.length = n + 1 := ⟨hs.length - 1, by omega⟩
  have HV := Lib.hid (show agreeB bars ss b ks hs ⟨mlo, mhi⟩ = inR (nthI hs n) ⟨mlo, mhi⟩ by unfold agreeB; rw [HE.out, hn]; rfl)
  rw [show hs.length - 1 = n by omega] at d0
  rw [hn] at hhl ⊢
  clear hA hc q2 hn hp hH
  obtain ⟨x, hx⟩ : ∃ x, nthI hs n = x := ⟨_, rfl⟩
  rw [hx] at d0 HV
  clear hx
  have w1' : IntKind.i64.wrap (((n + 1 : Nat) : Int) - 1) = (n : Int) := by rw [IntKind.wrap_i64]; omega
  have w2' : IntKind.i64.wrap ((n : Int) + 1 - 1) = (n : Int) := by rw [IntKind.wrap_i64]; omega
  have w3' : IntKind.i64.wrap (n : Int) = (n : Int) := by rw [IntKind.wrap_i64]; omega
  have l1 : (n : Int) < ((n + 1 : Nat) : Int) := by omega
  have l2 : (n : Int) < (n : Int) + 1 := by omega
  refine any_tk 4 ?_
  refine any_tk 5 ?_
  refine any_tk 6 ?_
  refine any_tk 7 ?_
  refine any_tk 8 ?_
  refine any_tk 9 ?_
  refine any_tk 10 ?_
  refine any_tk 11 ?_
  refine any_tk 12 ?_
  refine any_run1 (i := 13) (by kernel_rfl) (by rfl) (by kernel_rfl) ?_
  intro K3 hK3
  go_wp2_with fail
  refine (in_any x ⟨mlo, mhi⟩ _).mono ?_
  rintro e V2 ⟨rfl, hb2⟩
  have hb02 : Below W0.heap.size W0 V2 := hb01.trans (hb2.mono hb01.size)
  refine hK3 _ _ (fun _ => hb02) ?_
  clear hK3 K3 hb2
  have hC2 := hC.trans (hb02.mono (by have := hC.size; omega))
  obtain ⟨q, hq⟩ : ∃ q, inR x ⟨mlo, mhi⟩ = q := ⟨_, rfl⟩
  rw [hq] at HV ⊢
  clear hq w1' w2' w3' l1 l2
  refine any_tk 14 ?_
  refine any_tk 15 ?_
  refine any_done (by kernel_rfl) (NoPanic.normal ?_)
  go_wp2_with fail
  go_ret
  exact ⟨ret_bool HV.out.symm, by (try rw [hn0]); exact hC2⟩
end Go.Proofs.Ytkibdciomheekaa
