/- Reach and Chain of the program. -/
import Derived.Test.YtkljdbgkhghiaaaP24
import Derived.Laws.CopyOwn
set_option linter.all false
set_option linter.unnecessarySimpa false
set_option linter.unusedSimpArgs false
set_option linter.unusedVariables false
set_option linter.unusedSectionVars false

set_option linter.all false
namespace Go.Proofs.Ytkljdbgkhghiaaa
open Go.RowKit Kp

def reachL (N : Nat) (ts : List Kt) (two : Nat) : List Int := (List.range N).map (reachP N ts two)
def ReachPost (E : Int) (ts : List Kt) (one two : Int) (w : World) (e : Ending) (w' : World) : Prop :=
  ∃ v, e = .returned (.tuple #[v, .int .i64 (openE E ts (twoE E one two))]) ∧ RI w' w'.heap.size v (if openE E ts (twoE E one two) = 0 then reachL E.toNat ts two.toNat else []) ∧ Below w.heap.size w w'
theorem ReachPost.no {E : Int} {ts : List Kt} {one two : Int} {w w' : World} {r : Int} (h : openE E ts (twoE E one two) = r) (hr : r ≠ 0) (hb : Below w.heap.size w w') : ReachPost E ts one two w (.returned (.tuple #[.slice none 0 0, .int .i64 r])) w' :=
  ⟨_, by rw [h], by rw [if_neg (by rw [h]; exact hr)]; exact ri_nil _ _, hb⟩
theorem ReachPost.yes {N : Nat} {ts : List Kt} {one : Int} {two : Nat} {w w' : World} {v : Value} (h : openE (N : Int) ts (twoE N one two) = 0) (hr : RI w' w'.heap.size v (reachL N ts two)) (hb : Below w.heap.size w w') : ReachPost (N : Int) ts one two w (.returned (.tuple #[v, .int .i64 0])) w' :=
  ⟨v, by rw [h], by rw [if_pos h, Int.toNat_natCast, Int.toNat_natCast]; exact hr, hb⟩
/-- A chain that proves the greatest difference. -/
def ChainOk (N : Nat) (ts : List Kt) (one two : Nat) (c : List Kl) : Prop :=
  chainR (N : Int) ts c = (D N ts two one, 0) ∧ c.length ≠ 0 ∧ c.length ≤ 40 ∧ (nthL c 0).src = two ∧ (nthL c (c.length - 1)).dst = one
def ChainPost (E : Int) (ts : List Kt) (one two : Int) (w : World) (e : Ending) (w' : World) : Prop :=
  ∃ v c, e = .returned (.tuple #[v, .int .i64 (openE E ts (twoE E one two))]) ∧ RL w' w'.heap.size v c ∧ (openE E ts (twoE E one two) ≠ 0 → c = []) ∧ (openE E ts (twoE E one two) = 0 → ChainOk E.toNat ts one.toNat two.toNat c) ∧ Below w.heap.size w w'
theorem ChainPost.no {E : Int} {ts : List Kt} {one two : Int} {w w' : World} {r : Int} (h : openE E ts (twoE E one two) = r) (hr : r ≠ 0) (hb : Below w.heap.size w w') : ChainPost E ts one two w (.returned (.tuple #[.slice none 0 0, .int .i64 r])) w' :=
  ⟨_, [], by rw [h], rl_nil _ _, fun _ => rfl, fun h0 => absurd (h.symm.trans h0) hr, hb⟩
theorem nthL_head {c : List Kl} (d : Kl) (h : c ≠ []) : nthL c 0 = c.head?.getD d := by
  cases c with
  | nil => exact absurd rfl h
  | cons a t => rfl
theorem nthL_last {c : List Kl} (d : Kl) (h : c ≠ []) : nthL c (c.length - 1) = c.getLast?.getD d := by
  have hl : 0 < c.length := List.length_pos_iff.2 h
  unfold nthL
  rw [List.getD_eq_getElem?_getD, List.getLast?_eq_getElem?, List.getElem?_eq_getElem (by omega)]
  rfl
theorem chain_ok {N : Nat} {ts : List Kt} {one two m : Nat} (hb : bookE (N : Int) ts = 0) (ho : Okb N ts) (ha : Agr N ts) (h1 : one < N) (h2 : two < N) (hne : one ≠ two) (hm : m ≤ N)
    (hend : (fromS N ts two).by_ (back N (fromS N ts two).by_ m one) = none) (hon : ∀ i, i < m → (fromS N ts two).by_ (back N (fromS N ts two).by_ i one) ≠ none) :
    ChainOk N ts one two ((trail N (fromS N ts two).by_ m one).reverse.map (fun x : Kw => x.1)) := by
  have hE := ho.few
  obtain ⟨a, z, q1, q2, q3, q4, q5, q6⟩ := way_ok ho ha (v := two) (x := one) (by omega) (by omega) hne hend hon
  have ra : a = two := raw_inj q3 (.inr ⟨by omega, by omega⟩ : raw N (two : Int)) (by rw [q1, pl_nat])
  have rz : z = one := raw_inj q4 (.inr ⟨by omega, by omega⟩ : raw N (one : Int)) (by rw [q2, pl_nat])
  subst ra rz
  have hk := chk_of ho q5 q6
  have hhd := q5.head
  have hls := q5.last
  have hle : (trail N (fromS N ts two).by_ m one).reverse.length = m := by rw [List.length_reverse, trail_len m hon]
  have hn0 := q5.ne
  generalize (trail N (fromS N ts two).by_ m one).reverse = l at *
  have hcl : (l.map (fun x : Kw => x.1)).length = m := by rw [List.length_map, hle]
  have hcn : l.map (fun x : Kw => x.1) ≠ [] := fun h => hn0 (by cases l with | nil => rfl | cons x t => cases h)
  have hl0 : 0 < l.length := List.length_pos_iff.2 hn0
  refine ⟨chainR_some hb (by omega) ?_, by omega, by omega, by rw [nthL_head ⟨0, 0, 0⟩ hcn]; exact hhd _, by rw [nthL_last ⟨0, 0, 0⟩ hcn]; exact hls _⟩
  rw [nthL_head ⟨0, 0, 0⟩ hcn, hhd]
  exact hk
theorem make_kl (kl kc : IntKind) (n : Nat) (hn : n ≤ 1000) (W : World) :
    (Instr.makeSlice 25 (.int kl (n : Int)) (.int kc (n : Int))).run Try.prog W = .ok (.slice (some ⟨W.heap.size, 0, none⟩) n n) (W.alloc (.cells (madeCells #[.int .i64 0, .int .i64 0, .int .i64 0] (n * 3)) 44)) := by
  obtain ⟨i, hi, hz, hs, hb⟩ := info_parts kl_info
  have hr := run_make (P := Try.prog) W 25 44 i _ kl_slice hi hz kl kc n n (by omega) (Int.le_refl _) (by rw [hb]; omega) (by omega)
  simp only [Int.toNat_natCast, hs] at hr
  exact hr
theorem copy_kl (W : World) (g n c c' : Nat) (a : Addr) (cur : Array Value) (cs : List Value) (ty : TypeId) (hg : BK W g cur 44) (hc : cur.size = n * 3) (hl : cs.length = n * 3)
    (hsrc : ∀ j v, cs[j]? = some v → W.cell? (a.add j) = some v) (h1 : ∀ v ∈ cs, v.oneCell' = true) :
    ∃ w', (Builtin.copy_ #[25, 25] ty #[.slice (some ⟨g, 0, none⟩) n c, .slice (some a) n c']).run Try.prog W = .ok (goInt n) w' ∧ BK w' g cs.toArray 44 ∧ ∀ B w, B ≤ g → Below B w W → Below B w w' := by
  obtain ⟨i, hi, hz, hs, hb⟩ := info_parts kl_info
  have hld := run_loadCells_list (P := Try.prog) W a cs hsrc
  have hst := run_storeCells_at Try.prog g 0 44 cs 0 cur W hg (by omega) h1
  have hrow : (cur.toList.take (0 + 0) ++ cs ++ cur.toList.drop (0 + 0 + cs.length)).toArray = cs.toArray := by
    rw [List.drop_of_length_le (by simp; omega)]; simp
  rw [hrow] at hst
  refine ⟨W.setRow g cs.toArray, ?_, ?_, ?_⟩
  · simp [Builtin.copy_, run_underlying kl_slice, Builtin.lenOf, Builtin.firstCells, sizeOf, typeInfo, hi, hs, ← hl, hld, hst]
  · unfold BK at hg ⊢
    simp [World.setRow, Array.getElem?_modify, hg]
  · intro B w hB hbw
    refine hbw.trans ⟨rfl, rfl, rfl, by simp [World.setRow], fun k hk => ?_⟩
    simp only [World.setRow, Array.getElem?_modify]
    rw [if_neg (by omega)]

set_option maxHeartbeats 8000000 in
set_option maxRecDepth 100000 in
theorem reach_any (E one two : Int) (ts : List Kt) (v : Value) (w : World) (hl : ts.length ≤ 1000) (h : RT w w.heap.size v ts) :
    Calls Try.prog 27 #[.agg #[.int .i64 E, v], .int .i64 one, .int .i64 two] w (ReachPost E ts one two w) := by
  obtain ⟨b, off, cap, A, rfl, hAx⟩ := h.slice
  clear hAx
  have hR := h
  clear h
  obtain ⟨n0, hn0⟩ : ∃ n, w.heap.size = n := ⟨_, rfl⟩
  have hC : Below n0 w w := Below.refl _ _
  go_enter Try.func27, Try.ntmps27
  go_upto_region 1 with fail
  have hqbx : n0 ≤ n0 := by have := hC.size; omega
  have bx : BK (w.alloc (.cells #[.int .i64 E, .slice A ts.length cap] 24)) (n0) #[.int .i64 E, .slice A ts.length cap] 24 := BK.new' _ _ _ (n0) hn0
  have hsbx : (w.alloc (.cells #[.int .i64 E, .slice A ts.length cap] 24)).heap.size = n0 + 1 := by simp [hn0]
  replace hC : Below n0 w (w.alloc (.cells #[.int .i64 E, .slice A ts.length cap] 24)) := Below.alloc hC (by have := hC.size; omega) _
  replace hR := (RS.below hR (w' := (w.alloc (.cells #[.int .i64 E, .slice A ts.length cap] 24))) (Below.alloc (Below.refl _ _) (Nat.le_refl _) _)).more (B' := (w.alloc (.cells #[.int .i64 E, .slice A ts.length cap] 24)).heap.size) (by simp)
  generalize (w.alloc (.cells #[.int .i64 E, .slice A ts.length cap] 24)) = Wbx at *
  have hzx : n0 ≤ Wbx.heap.size := by have := hC.size; omega
  have lbx := bx.lt
  have bxc0 := bx.cell 0
  have bxc1 := bx.cell 1
  simp at bxc0 bxc1
  clear hsbx
  refine wp_region_noPanic (plain_any [0, 1, 2, 3, 6, 7, 8] (Below Wbx.heap.size Wbx) mixed ?_)
  (refine any_take 0 ?_ (by rfl) (by kernel_rfl) (fun _ _ _ _ _ hx => hx.elim) (.inl ⟨by rfl, ?_⟩) (by exact bel_of) ?_; rotate_left; (intro X hX; obtain ⟨r1, r2⟩ := Below.rules hX; clear hX; go_simp; rfl); simp only [List.getElem_toArray, List.getElem_cons_succ, List.getElem_cons_zero, Act.put, List.setIfInBounds_toArray, List.set_cons_succ, List.set_cons_zero])
  have d0z : Below Wbx.heap.size Wbx Wbx.drew := by exact bel_of
  (refine any_take 1 ?_ (by rfl) (by kernel_rfl) (fun _ _ _ _ _ hx => hx.elim) (.inl ⟨by rfl, ?_⟩) (by exact bel_of) ?_; rotate_left; (intro X hX; obtain ⟨r1, r2⟩ := Below.rules hX; clear hX; go_simp; rfl); simp only [List.getElem_toArray, List.getElem_cons_succ, List.getElem_cons_zero, Act.put, List.setIfInBounds_toArray, List.set_cons_succ, List.set_cons_zero])
  (refine any_take 2 ?_ (by rfl) (by kernel_rfl) (fun _ _ _ _ _ hx => hx.elim) (.inl ⟨by rfl, ?_⟩) (by exact bel_of) ?_; rotate_left; (intro X hX; obtain ⟨r1, r2⟩ := Below.rules hX; clear hX; go_simp; rfl); simp only [List.getElem_toArray, List.getElem_cons_succ, List.getElem_cons_zero, Act.put, List.setIfInBounds_toArray, List.set_cons_succ, List.set_cons_zero])
  (refine any_take 3 ?_ (by rfl) (by kernel_rfl) (fun _ _ _ _ _ hx => hx.elim) (.inl ⟨by rfl, ?_⟩) (by exact bel_of) ?_; rotate_left; (intro X hX; obtain ⟨r1, r2⟩ := Below.rules hX; clear hX; go_simp; rfl); simp only [List.getElem_toArray, List.getElem_cons_succ, List.getElem_cons_zero, Act.put, List.setIfInBounds_toArray, List.set_cons_succ, List.set_cons_zero])
  have qz1 := d0z.size
  refine any_run1 (i := 4) (by kernel_rfl) (by rfl) (by kernel_rfl) ?_
  intro K hK
  go_wp2_with fail
  refine (edgesE_any E one two _ _).mono ?_
  rintro e vz1 ⟨r, rfl, hr, hb⟩
  have ez1 : Below Wbx.heap.size Wbx vz1 := d0z.trans (hb.mono d0z.size)
  clear hb
  refine hK _ _ (fun _ => ez1) ?_
  clear hK K
  have qz2 := ez1.size
  refine any_run1 (i := 5) (by kernel_rfl) (by rfl) (by kernel_rfl) ?_
  intro K hK
  go_wp2_with fail
  refine (open_any E r ts _ _ hl ((RS.below hR ez1).more ez1.size)).mono ?_
  rintro e vz2 ⟨p, rfl, hop, hb⟩
  have ez2 : Below Wbx.heap.size Wbx vz2 := ez1.trans (hb.mono ez1.size)
  clear hb
  refine hK _ _ (fun _ => ez2) ?_
  clear hK K
  (refine any_take 6 ?_ (by rfl) (by kernel_rfl) (fun _ _ _ _ _ hx => hx.elim) (.inl ⟨by rfl, ?_⟩) (by exact bel_of) ?_; rotate_left; (intro X hX; obtain ⟨r1, r2⟩ := Below.rules hX; clear hX; go_simp; rfl); simp only [List.getElem_toArray, List.getElem_cons_succ, List.getElem_cons_zero, Act.put, List.setIfInBounds_toArray, List.set_cons_succ, List.set_cons_zero])
  (refine any_take 7 ?_ (by rfl) (by kernel_rfl) (fun _ _ _ _ _ hx => hx.elim) (.inl ⟨by rfl, ?_⟩) (by exact bel_of) ?_; rotate_left; (intro X hX; obtain ⟨r1, r2⟩ := Below.rules hX; clear hX; go_simp; rfl); simp only [List.getElem_toArray, List.getElem_cons_succ, List.getElem_cons_zero, Act.put, List.setIfInBounds_toArray, List.set_cons_succ, List.set_cons_zero])
  (refine any_take 8 ?_ (by rfl) (by kernel_rfl) (fun _ _ _ _ _ hx => hx.elim) (.inl ⟨by rfl, ?_⟩) (by exact bel_of) ?_; rotate_left; (intro X hX; obtain ⟨r1, r2⟩ := Below.rules hX; clear hX; go_simp; rfl); simp only [List.getElem_toArray, List.getElem_cons_succ, List.getElem_cons_zero, Act.put, List.setIfInBounds_toArray, List.set_cons_succ, List.set_cons_zero])
  refine any_run1 (i := 9) (by kernel_rfl) (by rfl) (by kernel_rfl) ?_
  intro K hK
  go_wp2_with fail
  refine hK _ _ (fun _ => ez2) ?_
  clear hK K
  refine any_run1 (i := 10) (by kernel_rfl) (by rfl) (by kernel_rfl) ?_
  intro K hK
  go_wp2_with fail
  refine hK _ _ (fun _ => ez2) ?_
  clear hK K
  refine any_done (by kernel_rfl) (NoPanic.normal ?_)
  have hb := ez2
  replace hC : Below n0 w vz2 := hC.trans (hb.mono (by have := hC.size; omega))
  replace hR := (RS.below hR hb).more hb.size
  replace bx := bx.below hb bx.lt
  clear hb
  clear lbx bxc0 bxc1
  obtain ⟨e, he⟩ : ∃ e, openE E ts r = e := ⟨_, rfl⟩
  have HE := Lib.hid ((openE_congr hr).symm.trans he)
  rw [he] at hop ⊢
  clear he hr
  by_cases h0 : e = 0
  case neg =>
    clear hop
    have b1 : (e != 0) = true := by simp [h0]
    have HN := Lib.hid h0
    clear h0
    go_wp2_with fail
    exact bodyPost_ret (v := .tuple #[.slice none 0 0, .int .i64 e]) (by simp [results, Try.results27, go_sem]) rfl (ReachPost.no HE.out HN.out (by first | exact hC | (rw [hn0]; exact hC)))
  subst h0
  obtain ⟨N, rfl, ho, hl40, h2, hg, hbk⟩ := openE_ok HE.out
  obtain ⟨u, v, rfl, rfl, hu, hv, huv⟩ := twoE_nat h2
  obtain ⟨gb, rfl, hBn, hgb, hRg⟩ := hop rfl
  rw [Int.toNat_natCast] at hBn
  have HO := Lib.hid ho
  have HG := Lib.hid hg
  have HBK := Lib.hid hbk
  have HUV := Lib.hid huv
  have hE := ho.few
  clear ho h2 hg hbk huv hop hRg
  have lbx := bx.lt
  have bxc0 := bx.cell 0
  have bxc1 := bx.cell 1
  simp at bxc0 bxc1
  go_wp2_with fail
  clear lbx bxc0 bxc1
  refine (span_any N _ ts _ 0 gb v N _ HO.out HG.out hl40 ⟨Int.le_refl 0, by have := HO.out.pos; omega⟩ (by omega) (by omega) hBn).mono ?_
  rintro e w1 ⟨rfl, hb⟩
  replace hC : Below n0 w w1 := hC.trans (hb.mono (by have := hC.size; omega))
  replace hR := (RS.below hR hb).more hb.size
  replace bx := bx.below hb bx.lt
  replace hBn := Bn.below hBn hb
  clear hb
  have hDl := D_rng HO.out HG.out (u := v) (v := N) (by omega) (Nat.le_refl N)
  unfold spanA
  obtain ⟨dlo, hdlo⟩ : ∃ x, -D N ts v N = x := ⟨_, rfl⟩
  rw [hdlo]
  generalize hdh : D N ts N v = dhi
  clear hdh
  have F0 := fun W => rg_lo dlo dhi W
  have HDL := Lib.hid hdlo
  have hd1 : -1000 ≤ dlo ∧ dlo ≤ 1000 := by omega
  clear hdlo hDl
  go_wp2_with fail
  refine (from_any N _ ts _ 0 gb v _ HO.out hl40 ⟨Int.le_refl 0, by have := HO.out.pos; omega⟩ (by omega) hBn).mono ?_
  rintro e w2 ⟨gf, gm1, k1, rfl, hLf, hM1, hb, _, _⟩
  replace hC : Below n0 w w2 := hC.trans (hb.mono (by have := hC.size; omega))
  replace hR := (RS.below hR hb).more hb.size
  replace bx := bx.below hb bx.lt
  replace hBn := Bn.below hBn hb
  clear hb
  clear hM1
  clear F0
  have lbx := bx.lt
  have bxc0 := bx.cell 0
  have bxc1 := bx.cell 1
  simp at bxc0 bxc1
  go_wp2_with fail
  clear lbx bxc0 bxc1
  refine (from_any N _ ts _ 0 gb N _ HO.out hl40 ⟨Int.le_refl 0, by have := HO.out.pos; omega⟩ (Nat.le_refl N) hBn).mono ?_
  rintro e w3 ⟨gn, gm2, k2, rfl, hLn, hM2, hb, _, _⟩
  replace hC : Below n0 w w3 := hC.trans (hb.mono (by have := hC.size; omega))
  replace hR := (RS.below hR hb).more hb.size
  replace bx := bx.below hb bx.lt
  replace hBn := Bn.below hBn hb
  replace hLf := Lk.below hLf hb
  clear hb
  clear hM2
  have lbx := bx.lt
  have bxc0 := bx.cell 0
  have bxc1 := bx.cell 1
  simp at bxc0 bxc1
  go_wp2_with fail
  clear lbx bxc0 bxc1
  have HLF := Lib.hid hLf
  have HLN := Lib.hid hLn
  clear hLf hLn
  go_loopw [13, 42] (fun acc iv wr => ∃ i : Nat, i ≤ N ∧ iv = .int .i64 i ∧ OwnI 2 wr w3.heap.size acc ((reachL N ts v).take i) ∧ Below w3.heap.size w3 wr) (fun _ iv _ => N - (intOf iv).toNat)
  case atStart => exact ⟨0, Nat.zero_le _, rfl, by simpa using OwnI.nil _ _ _, Below.refl _ _⟩
  case round =>
    obtain ⟨i, hi, rfl, hown, hbr⟩ := hrel
    by_cases hlt : i < N
    · have hLf := HLF.out.below hbr
      have hLn := HLN.out.below hbr
      have cf := hLf.at (i := i) (by omega)
      have cn := hLn.at (i := i) (by omega)
      rw [from_eq HO.out HG.out (by omega) (by omega)] at cf cn
      have lf := hLf.lt
      have ln := hLn.lt
      have r1 := D_rng HO.out HG.out (u := v) (v := i) (by omega) (by omega)
      have r2 := D_rng HO.out HG.out (u := N) (v := i) (by omega) (by omega)
      have hTK := map_take_succ (reachP N ts v) N i hlt
      have hrp : reachP N ts v i = min (dlo + D N ts v i) (D N ts N i) := by unfold reachP; rw [HDL.out]
      rw [hrp] at hTK
      have hTK2 : (reachL N ts v).take i ++ [min (dlo + D N ts v i) (D N ts N i)] = (reachL N ts v).take (i + 1) := hTK
      clear hTK hrp hLf hLn
      generalize D N ts v i = x at *
      generalize D N ts N i = y at *
      have wx : IntKind.i64.wrap (dlo + x) = dlo + x := by rw [IntKind.wrap_i64]; omega
      obtain ⟨m, hm⟩ : ∃ m, (if y < dlo + x then y else dlo + x) = m := ⟨_, rfl⟩
      have hmm : min (dlo + x) y = m := by rw [← hm]; omega
      rw [hmm] at hTK2
      have hi17 : (i : Int) < 17 := by omega
      go_upto_region 11 with fail
      clear hmm
      refine wp_region_noPanic (plain_any [0, 1, 2, 3, 4, 5, 6, 7, 8, 9, 10, 11, 12, 13, 14, 15] (Below wr.heap.size wr) mixed ?_)
      (refine any_take 0 ?_ (by rfl) (by kernel_rfl) (fun _ _ _ _ _ hx => hx.elim) (.inl ⟨by rfl, ?_⟩) (by exact bel_of) ?_; rotate_left; (intro X hX; obtain ⟨r1, r2⟩ := Below.rules hX; clear hX; go_simp; rfl); simp only [List.getElem_toArray, List.getElem_cons_succ, List.getElem_cons_zero, Act.put, List.setIfInBounds_toArray, List.set_cons_succ, List.set_cons_zero])
      (refine any_take 1 ?_ (by rfl) (by kernel_rfl) (fun _ _ _ _ _ hx => hx.elim) (.inl ⟨by rfl, ?_⟩) (by exact bel_of) ?_; rotate_left; (intro X hX; obtain ⟨r1, r2⟩ := Below.rules hX; clear hX; go_simp; rfl); simp only [List.getElem_toArray, List.getElem_cons_succ, List.getElem_cons_zero, Act.put, List.setIfInBounds_toArray, List.set_cons_succ, List.set_cons_zero])
      (refine any_take 2 ?_ (by rfl) (by kernel_rfl) (fun _ _ _ _ _ hx => hx.elim) (.inl ⟨by rfl, ?_⟩) (by exact bel_of) ?_; rotate_left; (intro X hX; obtain ⟨r1, r2⟩ := Below.rules hX; clear hX; go_simp; rfl); simp only [List.getElem_toArray, List.getElem_cons_succ, List.getElem_cons_zero, Act.put, List.setIfInBounds_toArray, List.set_cons_succ, List.set_cons_zero])
      (refine any_take 3 ?_ (by rfl) (by kernel_rfl) (fun _ _ _ _ _ hx => hx.elim) (.inl ⟨by rfl, ?_⟩) (by exact bel_of) ?_; rotate_left; (intro X hX; obtain ⟨r1, r2⟩ := Below.rules hX; clear hX; go_simp; rfl); simp only [List.getElem_toArray, List.getElem_cons_succ, List.getElem_cons_zero, Act.put, List.setIfInBounds_toArray, List.set_cons_succ, List.set_cons_zero])
      (refine any_take 4 ?_ (by rfl) (by kernel_rfl) (fun _ _ _ _ _ hx => hx.elim) (.inl ⟨by rfl, ?_⟩) (by exact bel_of) ?_; rotate_left; (intro X hX; obtain ⟨r1, r2⟩ := Below.rules hX; clear hX; go_simp; rfl); simp only [List.getElem_toArray, List.getElem_cons_succ, List.getElem_cons_zero, Act.put, List.setIfInBounds_toArray, List.set_cons_succ, List.set_cons_zero])
      (refine any_take 5 ?_ (by rfl) (by kernel_rfl) (fun _ _ _ _ _ hx => hx.elim) (.inl ⟨by rfl, ?_⟩) (by exact bel_of) ?_; rotate_left; (intro X hX; obtain ⟨r1, r2⟩ := Below.rules hX; clear hX; go_simp; rfl); simp only [List.getElem_toArray, List.getElem_cons_succ, List.getElem_cons_zero, Act.put, List.setIfInBounds_toArray, List.set_cons_succ, List.set_cons_zero])
      (refine any_take 6 ?_ (by rfl) (by kernel_rfl) (fun _ _ _ _ _ hx => hx.elim) (.inl ⟨by rfl, ?_⟩) (by exact bel_of) ?_; rotate_left; (intro X hX; obtain ⟨r1, r2⟩ := Below.rules hX; clear hX; go_simp; rfl); simp only [List.getElem_toArray, List.getElem_cons_succ, List.getElem_cons_zero, Act.put, List.setIfInBounds_toArray, List.set_cons_succ, List.set_cons_zero])
      (refine any_take 7 ?_ (by rfl) (by kernel_rfl) (fun _ _ _ _ _ hx => hx.elim) (.inl ⟨by rfl, ?_⟩) (by exact bel_of) ?_; rotate_left; (intro X hX; obtain ⟨r1, r2⟩ := Below.rules hX; clear hX; go_simp; rfl); simp only [List.getElem_toArray, List.getElem_cons_succ, List.getElem_cons_zero, Act.put, List.setIfInBounds_toArray, List.set_cons_succ, List.set_cons_zero])
      (refine any_take 8 ?_ (by rfl) (by kernel_rfl) (fun _ _ _ _ _ hx => hx.elim) (.inl ⟨by rfl, ?_⟩) (by exact bel_of) ?_; rotate_left; (intro X hX; obtain ⟨r1, r2⟩ := Below.rules hX; clear hX; go_simp; rfl); simp only [List.getElem_toArray, List.getElem_cons_succ, List.getElem_cons_zero, Act.put, List.setIfInBounds_toArray, List.set_cons_succ, List.set_cons_zero])
      (refine any_take 9 ?_ (by rfl) (by kernel_rfl) (fun _ _ _ _ _ hx => hx.elim) (.inl ⟨by rfl, ?_⟩) (by exact bel_of) ?_; rotate_left; (intro X hX; obtain ⟨r1, r2⟩ := Below.rules hX; clear hX; go_simp; rfl); simp only [List.getElem_toArray, List.getElem_cons_succ, List.getElem_cons_zero, Act.put, List.setIfInBounds_toArray, List.set_cons_succ, List.set_cons_zero])
      (refine any_take 10 ?_ (by rfl) (by kernel_rfl) (fun _ _ _ _ _ hx => hx.elim) (.inl ⟨by rfl, ?_⟩) (by exact bel_of) ?_; rotate_left; (intro X hX; obtain ⟨r1, r2⟩ := Below.rules hX; clear hX; go_simp; rfl); simp only [List.getElem_toArray, List.getElem_cons_succ, List.getElem_cons_zero, Act.put, List.setIfInBounds_toArray, List.set_cons_succ, List.set_cons_zero])
      (refine any_take 11 ?_ (by rfl) (by kernel_rfl) (fun _ _ _ _ _ hx => hx.elim) (.inl ⟨by rfl, ?_⟩) (by exact bel_of) ?_; rotate_left; (intro X hX; obtain ⟨r1, r2⟩ := Below.rules hX; clear hX; go_simp; rfl); simp only [List.getElem_toArray, List.getElem_cons_succ, List.getElem_cons_zero, Act.put, List.setIfInBounds_toArray, List.set_cons_succ, List.set_cons_zero])
      (refine any_take 12 ?_ (by rfl) (by kernel_rfl) (fun _ _ _ _ _ hx => hx.elim) (.inl ⟨by rfl, ?_⟩) (by exact bel_of) ?_; rotate_left; (intro X hX; obtain ⟨r1, r2⟩ := Below.rules hX; clear hX; go_simp; rfl); simp only [List.getElem_toArray, List.getElem_cons_succ, List.getElem_cons_zero, Act.put, List.setIfInBounds_toArray, List.set_cons_succ, List.set_cons_zero])
      (refine any_take 13 ?_ (by rfl) (by kernel_rfl) (fun _ _ _ _ _ hx => hx.elim) (.inl ⟨by rfl, ?_⟩) (by exact bel_of) ?_; rotate_left; (intro X hX; obtain ⟨r1, r2⟩ := Below.rules hX; clear hX; go_simp; rfl); simp only [List.getElem_toArray, List.getElem_cons_succ, List.getElem_cons_zero, Act.put, List.setIfInBounds_toArray, List.set_cons_succ, List.set_cons_zero])
      (refine any_take 14 ?_ (by rfl) (by kernel_rfl) (fun _ _ _ _ _ hx => hx.elim) (.inl ⟨by rfl, ?_⟩) (by exact bel_of) ?_; rotate_left; (intro X hX; obtain ⟨r1, r2⟩ := Below.rules hX; clear hX; go_simp; rfl); simp only [List.getElem_toArray, List.getElem_cons_succ, List.getElem_cons_zero, Act.put, List.setIfInBounds_toArray, List.set_cons_succ, List.set_cons_zero])
      (refine any_take 15 ?_ (by rfl) (by kernel_rfl) (fun _ _ _ _ _ hx => hx.elim) (.inl ⟨by rfl, ?_⟩) (by exact bel_of) ?_; rotate_left; (intro X hX; obtain ⟨r1, r2⟩ := Below.rules hX; clear hX; go_simp; rfl); simp only [List.getElem_toArray, List.getElem_cons_succ, List.getElem_cons_zero, Act.put, List.setIfInBounds_toArray, List.set_cons_succ, List.set_cons_zero])
      have hd0 : Below wr.heap.size wr wr.drew := Below.drew (Below.refl _ _)
      refine any_run1 (i := 16) (by kernel_rfl) (by rfl) (by kernel_rfl) ?_
      intro K3 hK3
      go_wp2_with fail
      obtain ⟨gv, hgv⟩ : ∃ n, wr.heap.size = n := ⟨_, rfl⟩
      have bX : BK (wr.alloc (.cells #[.int .i64 m] 2)).drew gv #[.int .i64 m] 2 := (BK.new' _ _ _ gv hgv).drew
      have hbX : Below wr.heap.size wr (wr.alloc (.cells #[.int .i64 m] 2)).drew := (Below.alloc (Below.refl _ _) (Nat.le_refl _) _).drew
      refine hK3 _ _ (fun _ => hbX) ?_
      clear hK3 K3 cf cn lf ln hm
      try rw [hgv]
      clear hgv
      obtain ⟨v', w9, hrun, hown', hbel, hs9, _⟩ := app_b_i i64_info i64_slice (hown.below hbX) bX (by first | (simp; done) | (simp; omega)) (Nat.le_trans hbr.size hbX.size)
      rw [hTK2] at hown'
      have hbw9 := hbel w3 (hbr.trans (hbX.mono hbr.size))
      have HRUN := Lib.hid hrun
      have HO9 := Lib.hid hown'
      have HB9 := Lib.hid hbw9
      clear hrun hown' hbw9 hbel bX hTK2 hown hs9
      generalize (wr.alloc (.cells #[.int .i64 m] 2)).drew = VX at *
      refine any_run1 (i := 17) (by kernel_rfl) (by rfl) (by kernel_rfl) ?_
      intro K3 hK3
      refine wp_append_run (.tmp 45) (.tmp 61) 40 _ rfl HRUN.out ?_
      refine hK3 _ _ (fun hx => (Bool.false_ne_true (hx.symm.trans (by kernel_rfl))).elim) ?_
      clear hK3 K3
      simp only [List.getElem_toArray, List.getElem_cons_succ, List.getElem_cons_zero, Act.put, List.setIfInBounds_toArray, List.set_cons_succ, List.set_cons_zero]
      refine any_run1 (i := 18) (by kernel_rfl) (by rfl) (by kernel_rfl) ?_
      intro K3 hK3
      go_wp2_with fail
      refine hK3 _ _ (fun hx => (Bool.false_ne_true (hx.symm.trans (by kernel_rfl))).elim) ?_
      clear hK3 K3
      refine any_done (by kernel_rfl) (NoPanic.normal ?_)
      go_wp2_with fail
      go_roundw
      case rel => exact ⟨i + 1, by omega, by go_num, HO9.out, HB9.out⟩
      case measure => simp [intOf]; omega
    · have hie : i = N := by omega
      rw [hie, List.take_of_length_le (by simp [reachL])] at hown
      have hCo : Below n0 w wr := hC.trans (hbr.mono (by have := hC.size; omega))
      have HOW := Lib.hid hown
      clear hown hie hbr
      go_wp2_with fail
      exact bodyPost_ret (v := .tuple #[u13, .int .i64 0]) (by simp [results, Try.results27, go_sem]) rfl (ReachPost.yes HE.out HOW.out.ri (by first | exact hCo | (rw [hn0]; exact hCo)))

set_option maxHeartbeats 8000000 in
set_option maxRecDepth 100000 in
theorem chain_any (E one two : Int) (ts : List Kt) (v : Value) (w : World) (hl : ts.length ≤ 1000) (h : RT w w.heap.size v ts) :
    Calls Try.prog 26 #[.agg #[.int .i64 E, v], .int .i64 one, .int .i64 two] w (ChainPost E ts one two w) := by
  obtain ⟨b, off, cap, A, rfl, hAx⟩ := h.slice
  clear hAx
  have hR := h
  clear h
  obtain ⟨n0, hn0⟩ : ∃ n, w.heap.size = n := ⟨_, rfl⟩
  have hC : Below n0 w w := Below.refl _ _
  go_enter Try.func26, Try.ntmps26
  go_upto_region 1 with fail
  have hqbx : n0 ≤ n0 := by have := hC.size; omega
  have bx : BK (w.alloc (.cells #[.int .i64 E, .slice A ts.length cap] 24)) (n0) #[.int .i64 E, .slice A ts.length cap] 24 := BK.new' _ _ _ (n0) hn0
  have hsbx : (w.alloc (.cells #[.int .i64 E, .slice A ts.length cap] 24)).heap.size = n0 + 1 := by simp [hn0]
  replace hC : Below n0 w (w.alloc (.cells #[.int .i64 E, .slice A ts.length cap] 24)) := Below.alloc hC (by have := hC.size; omega) _
  replace hR := (RS.below hR (w' := (w.alloc (.cells #[.int .i64 E, .slice A ts.length cap] 24))) (Below.alloc (Below.refl _ _) (Nat.le_refl _) _)).more (B' := (w.alloc (.cells #[.int .i64 E, .slice A ts.length cap] 24)).heap.size) (by simp)
  generalize (w.alloc (.cells #[.int .i64 E, .slice A ts.length cap] 24)) = Wbx at *
  have hzx : n0 ≤ Wbx.heap.size := by have := hC.size; omega
  have lbx := bx.lt
  have bxc0 := bx.cell 0
  have bxc1 := bx.cell 1
  simp at bxc0 bxc1
  clear hsbx
  refine wp_region_noPanic (plain_any [0, 1, 2, 3, 6, 7, 8] (Below Wbx.heap.size Wbx) mixed ?_)
  (refine any_take 0 ?_ (by rfl) (by kernel_rfl) (fun _ _ _ _ _ hx => hx.elim) (.inl ⟨by rfl, ?_⟩) (by exact bel_of) ?_; rotate_left; (intro X hX; obtain ⟨r1, r2⟩ := Below.rules hX; clear hX; go_simp; rfl); simp only [List.getElem_toArray, List.getElem_cons_succ, List.getElem_cons_zero, Act.put, List.setIfInBounds_toArray, List.set_cons_succ, List.set_cons_zero])
  have d0z : Below Wbx.heap.size Wbx Wbx.drew := by exact bel_of
  (refine any_take 1 ?_ (by rfl) (by kernel_rfl) (fun _ _ _ _ _ hx => hx.elim) (.inl ⟨by rfl, ?_⟩) (by exact bel_of) ?_; rotate_left; (intro X hX; obtain ⟨r1, r2⟩ := Below.rules hX; clear hX; go_simp; rfl); simp only [List.getElem_toArray, List.getElem_cons_succ, List.getElem_cons_zero, Act.put, List.setIfInBounds_toArray, List.set_cons_succ, List.set_cons_zero])
  (refine any_take 2 ?_ (by rfl) (by kernel_rfl) (fun _ _ _ _ _ hx => hx.elim) (.inl ⟨by rfl, ?_⟩) (by exact bel_of) ?_; rotate_left; (intro X hX; obtain ⟨r1, r2⟩ := Below.rules hX; clear hX; go_simp; rfl); simp only [List.getElem_toArray, List.getElem_cons_succ, List.getElem_cons_zero, Act.put, List.setIfInBounds_toArray, List.set_cons_succ, List.set_cons_zero])
  (refine any_take 3 ?_ (by rfl) (by kernel_rfl) (fun _ _ _ _ _ hx => hx.elim) (.inl ⟨by rfl, ?_⟩) (by exact bel_of) ?_; rotate_left; (intro X hX; obtain ⟨r1, r2⟩ := Below.rules hX; clear hX; go_simp; rfl); simp only [List.getElem_toArray, List.getElem_cons_succ, List.getElem_cons_zero, Act.put, List.setIfInBounds_toArray, List.set_cons_succ, List.set_cons_zero])
  have qz1 := d0z.size
  refine any_run1 (i := 4) (by kernel_rfl) (by rfl) (by kernel_rfl) ?_
  intro K hK
  go_wp2_with fail
  refine (edgesE_any E one two _ _).mono ?_
  rintro e vz1 ⟨r, rfl, hr, hb⟩
  have ez1 : Below Wbx.heap.size Wbx vz1 := d0z.trans (hb.mono d0z.size)
  clear hb
  refine hK _ _ (fun _ => ez1) ?_
  clear hK K
  have qz2 := ez1.size
  refine any_run1 (i := 5) (by kernel_rfl) (by rfl) (by kernel_rfl) ?_
  intro K hK
  go_wp2_with fail
  refine (open_any E r ts _ _ hl ((RS.below hR ez1).more ez1.size)).mono ?_
  rintro e vz2 ⟨p, rfl, hop, hb⟩
  have ez2 : Below Wbx.heap.size Wbx vz2 := ez1.trans (hb.mono ez1.size)
  clear hb
  refine hK _ _ (fun _ => ez2) ?_
  clear hK K
  (refine any_take 6 ?_ (by rfl) (by kernel_rfl) (fun _ _ _ _ _ hx => hx.elim) (.inl ⟨by rfl, ?_⟩) (by exact bel_of) ?_; rotate_left; (intro X hX; obtain ⟨r1, r2⟩ := Below.rules hX; clear hX; go_simp; rfl); simp only [List.getElem_toArray, List.getElem_cons_succ, List.getElem_cons_zero, Act.put, List.setIfInBounds_toArray, List.set_cons_succ, List.set_cons_zero])
  (refine any_take 7 ?_ (by rfl) (by kernel_rfl) (fun _ _ _ _ _ hx => hx.elim) (.inl ⟨by rfl, ?_⟩) (by exact bel_of) ?_; rotate_left; (intro X hX; obtain ⟨r1, r2⟩ := Below.rules hX; clear hX; go_simp; rfl); simp only [List.getElem_toArray, List.getElem_cons_succ, List.getElem_cons_zero, Act.put, List.setIfInBounds_toArray, List.set_cons_succ, List.set_cons_zero])
  (refine any_take 8 ?_ (by rfl) (by kernel_rfl) (fun _ _ _ _ _ hx => hx.elim) (.inl ⟨by rfl, ?_⟩) (by exact bel_of) ?_; rotate_left; (intro X hX; obtain ⟨r1, r2⟩ := Below.rules hX; clear hX; go_simp; rfl); simp only [List.getElem_toArray, List.getElem_cons_succ, List.getElem_cons_zero, Act.put, List.setIfInBounds_toArray, List.set_cons_succ, List.set_cons_zero])
  refine any_run1 (i := 9) (by kernel_rfl) (by rfl) (by kernel_rfl) ?_
  intro K hK
  go_wp2_with fail
  refine hK _ _ (fun _ => ez2) ?_
  clear hK K
  refine any_run1 (i := 10) (by kernel_rfl) (by rfl) (by kernel_rfl) ?_
  intro K hK
  go_wp2_with fail
  refine hK _ _ (fun _ => ez2) ?_
  clear hK K
  refine any_done (by kernel_rfl) (NoPanic.normal ?_)
  have hb := ez2
  replace hC : Below n0 w vz2 := hC.trans (hb.mono (by have := hC.size; omega))
  replace hR := (RS.below hR hb).more hb.size
  replace bx := bx.below hb bx.lt
  clear hb
  clear lbx bxc0 bxc1
  obtain ⟨e, he⟩ : ∃ e, openE E ts r = e := ⟨_, rfl⟩
  have HE := Lib.hid ((openE_congr hr).symm.trans he)
  rw [he] at hop ⊢
  clear he hr
  by_cases h0 : e = 0
  case neg =>
    clear hop
    have b1 : (e != 0) = true := by simp [h0]
    have HN := Lib.hid h0
    clear h0
    go_wp2_with fail
    exact bodyPost_ret (v := .tuple #[.slice none 0 0, .int .i64 e]) (by simp [results, Try.results26, go_sem]) rfl (ChainPost.no HE.out HN.out (by first | exact hC | (rw [hn0]; exact hC)))
  subst h0
  obtain ⟨N, rfl, ho, hl40, h2, hg, hbk⟩ := openE_ok HE.out
  obtain ⟨u, v, rfl, rfl, hu, hv, huv⟩ := twoE_nat h2
  obtain ⟨gb, rfl, hBn, hgb, hRg⟩ := hop rfl
  rw [Int.toNat_natCast] at hBn
  have HO := Lib.hid ho
  have HG := Lib.hid hg
  have HBK := Lib.hid hbk
  have HUV := Lib.hid huv
  have hE := ho.few
  clear ho h2 hg hbk huv hop hRg
  go_wp2_with fail
  refine (from_any N _ ts _ 0 gb v _ HO.out hl40 ⟨Int.le_refl 0, by have := HO.out.pos; omega⟩ (by omega) hBn).mono ?_
  rintro e w1 ⟨gf, gm1, k1, rfl, hLf, hM1, hb, _, _⟩
  replace hC : Below n0 w w1 := hC.trans (hb.mono (by have := hC.size; omega))
  replace hR := (RS.below hR hb).more hb.size
  replace bx := bx.below hb bx.lt
  replace hBn := Bn.below hBn hb
  clear hb
  obtain ⟨m, hm, hend, hon⟩ := from_back HO.out HG.out (v := v) (x := u) (by omega) (by omega)
  have hok := chain_ok HBK.out HO.out HG.out hu hv HUV.out hm hend hon
  go_wp2_with fail
  refine (way_any N u m (fromS N ts v).by_ _ gf gm1 k1 _ hE (by omega) hm (fun x k hk => (raw_lks HO.out ⟨Int.le_refl 0, by have := HO.out.pos; omega⟩ ((from_ok HO.out HG.out (by omega)).2.some_ x k hk).1).1) hend hon hLf hM1).mono ?_
  rintro e w2 ⟨vc, rfl, hRc, hb⟩
  replace hC : Below n0 w w2 := hC.trans (hb.mono (by have := hC.size; omega))
  replace hR := (RS.below hR hb).more hb.size
  replace bx := bx.below hb bx.lt
  replace hBn := Bn.below hBn hb
  clear hb
  have hclen : ((trail N (fromS N ts v).by_ m u).reverse.map (fun x : Kw => x.1)).length ≠ 0 := hok.2.1
  have hclen2 : ((trail N (fromS N ts v).by_ m u).reverse.map (fun x : Kw => x.1)).length ≤ 40 := hok.2.2.1
  clear hLf hM1 hend hon
  generalize (trail N (fromS N ts v).by_ m u).reverse.map (fun x : Kw => x.1) = c at *
  obtain ⟨A8, c8, b8, o8, rfl, hl8, hA8, hc8⟩ := hRc
  obtain ⟨rfl, hb8⟩ := hA8 hclen
  obtain ⟨n, hn⟩ : ∃ n, c.length = n := ⟨_, rfl⟩
  have HN2 := Lib.hid hn
  have HOK := Lib.hid hok
  have HC8 := Lib.hid hc8
  rw [hn] at hclen hclen2 hl8
  have HL8 := Lib.hid hl8
  rw [hn]
  clear hA8 hc8 hok hl8 hn
  have hmk := make_kl .i64 .i64 n (by omega) w2
  obtain ⟨gn, hgn⟩ : ∃ g, w2.heap.size = g := ⟨_, rfl⟩
  have hbk0 : BK (w2.alloc (.cells (madeCells #[.int .i64 0, .int .i64 0, .int .i64 0] (n * 3)) 44)) gn (madeCells #[.int .i64 0, .int .i64 0, .int .i64 0] (n * 3)) 44 := BK.new' _ _ _ gn hgn
  have hb0 : Below w2.heap.size w2 (w2.alloc (.cells (madeCells #[.int .i64 0, .int .i64 0, .int .i64 0] (n * 3)) 44)) := Below.alloc (Below.refl _ _) (Nat.le_refl _) _
  rw [hgn] at hmk
  generalize w2.alloc (.cells (madeCells #[.int .i64 0, .int .i64 0, .int .i64 0] (n * 3)) 44) = W3 at *
  obtain ⟨w4, hcp, hb4, hbl4⟩ := copy_kl W3 gn n n c8 ⟨b8, o8, none⟩ _ (ofG encL c) 3 hbk0 (size_madeCells _ _) HL8.out.1 (fun j u hj => by
    have hjl : j < (ofG encL c).length := (List.getElem?_eq_some_iff.1 hj).1
    have e : (⟨b8, o8, none⟩ : Addr).add j = ⟨b8, o8 + j, none⟩ := by unfold Addr.add; split <;> simp_all
    rw [e, hb0.cell (by exact hb8), HC8.out j hjl, hj]) (by
    intro u hu
    obtain ⟨x, _, hx⟩ := List.mem_flatMap.1 hu
    simp [encL] at hx
    rcases hx with rfl | rfl | rfl <;> rfl)
  have hC4 : Below n0 w w4 := hbl4 n0 w (by have := hC.size; omega) (hC.trans (hb0.mono (by have := hC.size; omega)))
  have hrl : RL w4 w4.heap.size (.slice (some ⟨gn, 0, none⟩) n n) c := ⟨_, n, gn, 0, by rw [HN2.out], ⟨by rw [HL8.out.1, HN2.out], by rw [HN2.out]; exact Nat.le_refl _⟩, fun _ => ⟨rfl, hb4.lt⟩, fun j hj => by rw [Nat.zero_add, hb4.cell, List.getElem?_toArray]⟩
  have HRL := Lib.hid hrl
  have HC4 := Lib.hid hC4
  clear hgn hbk0 hb0 hbl4 hb4 hrl hC4
  go_wp2_with fail
  exact bodyPost_ret (v := .tuple #[.slice (some ⟨gn, 0, none⟩) n n, .int .i64 0]) (by simp [results, Try.results26, go_sem]) rfl ⟨_, c, by rw [HE.out], HRL.out, fun h => absurd HE.out h, fun _ => by rw [Int.toNat_natCast, Int.toNat_natCast, Int.toNat_natCast]; exact HOK.out, by first | exact HC4.out | (rw [hn0]; exact HC4.out)⟩

end Go.Proofs.Ytkljdbgkhghiaaa
