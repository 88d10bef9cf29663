/- A circle, none if the tests agree. -/
import Derived.Test.YtkljdbgkhghiaaaP18
import Derived.WalkMore
import Derived.BigRegion
set_option linter.all false
set_option linter.unnecessarySimpa false
set_option linter.unusedSimpArgs false
set_option linter.unusedVariables false
set_option linter.unusedSectionVars false

set_option linter.all false
namespace Go.Proofs.Ytkljdbgkhghiaaa
open Go.RowKit Kp

/-- What a bench gives: a circle, or nothing. -/
def CircPost (E : Nat) (ts : List Kt) (w : World) (e : Ending) (w' : World) : Prop := ∃ v c, e = .returned v ∧ RL w' w'.heap.size v c ∧ (Agr E ts → c = []) ∧ (¬ Agr E ts → Circ E ts c ∧ 0 ≤ (nthL c 0).src) ∧ Below w.heap.size w w'
theorem CircPost.none {E : Nat} {ts : List Kt} {w w' : World} (ha : Agr E ts) (hb : Below w.heap.size w w') : CircPost E ts w (.returned (.slice none 0 0)) w' :=
  ⟨_, [], rfl, ⟨_, 0, 0, 0, rfl, ⟨rfl, Nat.le_refl _⟩, fun h => absurd rfl h, fun j hj => by simp [ofG] at hj⟩, fun _ => rfl, fun h => absurd ha h, hb⟩
theorem CircPost.some {E : Nat} {ts : List Kt} {w w' : World} {v : Value} {c : List Kl} (ha : Agr E ts → False) (hr : RL w' w'.heap.size v c) (hc : Circ E ts c) (hh : 0 ≤ (nthL c 0).src) (hb : Below w.heap.size w w') : CircPost E ts w (.returned v) w' :=
  ⟨v, c, rfl, hr, fun h => (ha h).elim, fun _ => ⟨hc, hh⟩, hb⟩

set_option maxHeartbeats 8000000 in
set_option maxRecDepth 100000 in
theorem circle_any (E : Nat) (vt : Value) (ts : List Kt) (bel : List Int) (top : Int) (gb : Nat) (w : World) (ho : Okb E ts) (hl : ts.length ≤ 40) (ht : 0 ≤ top ∧ top < E) (hB : Bn w gb E vt ts bel top false) :
    Calls Try.prog 56 #[.pointer (some ⟨gb, 0, none⟩)] w (CircPost E ts w) := by
  have hE := ho.few
  obtain ⟨n0, hn0⟩ : ∃ n, w.heap.size = n := ⟨_, rfl⟩
  have hgb := hB.lt
  rw [hn0] at hgb
  have hR : RT w n0 vt ts := by rw [← hn0]; exact hB.2.1
  have HB := Lib.hid hB
  have HO := Lib.hid ho
  clear hB
  go_enter Try.func56, Try.ntmps56
  go_wp2_with fail
  go_step3
  go_wp2_with fail
  have hC : Below n0 w (w.alloc (.cells #[.int .i64 0, .int .i64 0, .int .i64 0, .int .i64 0, .int .i64 0, .int .i64 0, .int .i64 0, .int .i64 0, .int .i64 0, .int .i64 0, .int .i64 0, .int .i64 0, .int .i64 0, .int .i64 0, .int .i64 0, .int .i64 0, .int .i64 0, .map none, .int .i64 0] 101)) := by rw [← hn0]; exact bel_of
  have hL : Lk (w.alloc (.cells #[.int .i64 0, .int .i64 0, .int .i64 0, .int .i64 0, .int .i64 0, .int .i64 0, .int .i64 0, .int .i64 0, .int .i64 0, .int .i64 0, .int .i64 0, .int .i64 0, .int .i64 0, .int .i64 0, .int .i64 0, .int .i64 0, .int .i64 0, .map none, .int .i64 0] 101)) n0 (List.replicate 17 0) (.map none) 0 := ⟨BK.new' _ _ _ n0 hn0, rfl⟩
  generalize w.alloc (.cells #[.int .i64 0, .int .i64 0, .int .i64 0, .int .i64 0, .int .i64 0, .int .i64 0, .int .i64 0, .int .i64 0, .int .i64 0, .int .i64 0, .int .i64 0, .int .i64 0, .int .i64 0, .int .i64 0, .int .i64 0, .int .i64 0, .int .i64 0, .map none, .int .i64 0] 101) = W1 at *
  have hB1 : Bn W1 gb E vt ts bel top false := ⟨(hC.block gb hgb).trans HB.out.1, (RS.below hR hC).more (Nat.le_of_lt hL.lt), HB.out.2.2⟩
  refine (relax_any E vt ts bel top false gb n0 (List.replicate 17 0) (.map none) 0 W1 ho hl ht hB1 (RS.below hR hC) hgb hL (fun x => by
    by_cases hx : x < 17
    · rw [nthI_rep hx]; unfold far; omega
    · rw [nthI_out (by simp; omega)]; unfold far; omega)).mono ?_
  rintro e W3 ⟨rfl, gm, nn, z', hL3, hM3, hb3, hgm⟩
  have hq : lks E ts (qOf bel false) top = lks E ts noq 0 := rfl
  rw [hq] at hL3 hM3 ⊢
  have hra := relax_all (okl0 ho (show (List.replicate 17 (0 : Int)).length = 17 by simp)) (show 0 < E + 2 by omega) 0
  have hri := relax_iff (okl0 ho (show (List.replicate 17 (0 : Int)).length = 17 by simp)) 0 (fun v hv => by rw [nthI_rep (by omega)]; unfold far; omega)
  have hag : Agr E ts ↔ (relaxK E (lks E ts noq 0) (E + 2) 0 (sk0 (List.replicate 17 0))).1 = -1 := by
    rw [agr_iff ho, hri]
    exact ⟨fun ⟨p, hp⟩ => ⟨p, pot_of ho hp⟩, fun ⟨p, hp⟩ => ⟨p, ((pot_iff ho (Int.le_refl 0)).1 hp).1⟩⟩
  replace hC : Below n0 w W3 := hC.trans hb3
  have hgl := hL.lt
  have hB3 : Bn W3 gb E vt ts bel top false := ⟨(hC.block gb hgb).trans HB.out.1, (RS.below hR hC).more (Nat.le_of_lt hL3.lt), HB.out.2.2⟩
  generalize relaxK E (lks E ts noq 0) (E + 2) 0 (sk0 (List.replicate 17 0)) = rk at *
  obtain ⟨z, s⟩ := rk
  dsimp only at hL3 hM3 hra hag ⊢
  clear hB1 hL hb3 hri hq
  by_cases hz : z = -1
  · have HAG := Lib.hid (hag.2 hz)
    subst hz
    clear hra hag hB3 hL3 hM3
    go_wp2_with fail
    exact bodyPost_ret (v := .slice none 0 0) (by simp [results, Try.results56, go_sem]) rfl (CircPost.none HAG.out (by first | exact hC | (rw [hn0]; exact hC)))
  have HNA := Lib.hid (fun ha => hz (hag.1 ha))
  obtain ⟨hlen, v, last, rfl, hv, hi, hla⟩ := hra.2 hz
  clear hra hag hz
  have hfar : ∀ j, j < E + 2 → s.by_ (back E s.by_ j v) ≠ none := fun j hj => by
    obtain ⟨k, h1, _⟩ := open_far hi hla j hj
    rw [h1]; simp
  have hby : ∀ x k, s.by_ x = some k → raw E k.1.src := fun x k hk => (raw_lks ho ⟨Int.le_refl 0, by have := ho.pos; omega⟩ (hi.some_ x k hk).1).1
  have hlt : ∀ j, back E s.by_ j v ≤ E := back_lt (fun x k hk => by have := hby x k hk; unfold ksrc pl raw at *; split <;> omega) hv
  have HFAR := Lib.hid hfar
  have HBY := Lib.hid hby
  have HLT := Lib.hid hlt
  have HI := Lib.hid hi
  clear hfar hby hlt hi hlen hla
  have hv0 : decide ((v : Int) < 0) = false := decide_eq_false (by omega)
  go_upto_region 7 with fail
  obtain ⟨gs, hgs⟩ : ∃ n, W3.heap.size = n := ⟨_, rfl⟩
  have hX : Below n0 w (W3.alloc (.cells #[.int .i64 0, .int .i64 0, .int .i64 0, .int .i64 0, .int .i64 0, .int .i64 0, .int .i64 0, .int .i64 0, .int .i64 0, .int .i64 0, .int .i64 0, .int .i64 0, .int .i64 0, .int .i64 0, .int .i64 0, .int .i64 0, .int .i64 0] 98)) := Below.alloc hC (by have := hC.size; omega) _
  have hb4 : Below W3.heap.size W3 (W3.alloc (.cells #[.int .i64 0, .int .i64 0, .int .i64 0, .int .i64 0, .int .i64 0, .int .i64 0, .int .i64 0, .int .i64 0, .int .i64 0, .int .i64 0, .int .i64 0, .int .i64 0, .int .i64 0, .int .i64 0, .int .i64 0, .int .i64 0, .int .i64 0] 98)) := Below.alloc (Below.refl _ _) (Nat.le_refl _) _
  have bs : BK (W3.alloc (.cells #[.int .i64 0, .int .i64 0, .int .i64 0, .int .i64 0, .int .i64 0, .int .i64 0, .int .i64 0, .int .i64 0, .int .i64 0, .int .i64 0, .int .i64 0, .int .i64 0, .int .i64 0, .int .i64 0, .int .i64 0, .int .i64 0, .int .i64 0] 98)) gs (ofI (List.replicate 17 0)).toArray 98 := BK.new' _ _ _ gs hgs
  have hs4 : (W3.alloc (.cells #[.int .i64 0, .int .i64 0, .int .i64 0, .int .i64 0, .int .i64 0, .int .i64 0, .int .i64 0, .int .i64 0, .int .i64 0, .int .i64 0, .int .i64 0, .int .i64 0, .int .i64 0, .int .i64 0, .int .i64 0, .int .i64 0, .int .i64 0] 98)).heap.size = gs + 1 := by simp [hgs]
  have hL4 := hL3.below hb4
  have hM4 := hM3.kept (hb4.block _ hM3.lt)
  have hgm4 : gm < gs := by rw [← hgs]; exact hM3.lt
  have hgl4 : n0 < gs := by rw [← hgs]; exact hL3.lt
  rw [hgs]
  replace hC := hX
  clear hX hb4 hB3 hL3 hM3
  generalize W3.alloc (.cells #[.int .i64 0, .int .i64 0, .int .i64 0, .int .i64 0, .int .i64 0, .int .i64 0, .int .i64 0, .int .i64 0, .int .i64 0, .int .i64 0, .int .i64 0, .int .i64 0, .int .i64 0, .int .i64 0, .int .i64 0, .int .i64 0, .int .i64 0] 98) = W4 at *
  clear hgs
  have hclr : ∀ ty, (Builtin.clear_ #[40] ty #[.slice (some ⟨gs, 0, none⟩) 17 17]).run Try.prog W4 = .ok (.tuple #[]) (W4.setCells gs 0 [.int .i64 0, .int .i64 0, .int .i64 0, .int .i64 0, .int .i64 0, .int .i64 0, .int .i64 0, .int .i64 0, .int .i64 0, .int .i64 0, .int .i64 0, .int .i64 0, .int .i64 0, .int .i64 0, .int .i64 0, .int .i64 0, .int .i64 0]) := fun ty =>
    Lib.run_clear_slice W4 40 2 ty (.int .i64 0) i64_slice (fun W => by simp [zeroValue, go_sem, Try.t2]) rfl rfl gs 0 17 17 (by decide)
      (fun j hj => by rw [Nat.zero_add, bs.cell, Array.getElem?_eq_getElem (by simpa [ofI] using hj)]; rfl) (fun j hj => bs.frozen _)
  have hbS : Below gs W4 (W4.setCells gs 0 [.int .i64 0, .int .i64 0, .int .i64 0, .int .i64 0, .int .i64 0, .int .i64 0, .int .i64 0, .int .i64 0, .int .i64 0, .int .i64 0, .int .i64 0, .int .i64 0, .int .i64 0, .int .i64 0, .int .i64 0, .int .i64 0, .int .i64 0]) := setCells_below (Nat.le_refl _) _ _ _ (Below.refl _ _)
  have bs5 : BK (W4.setCells gs 0 [.int .i64 0, .int .i64 0, .int .i64 0, .int .i64 0, .int .i64 0, .int .i64 0, .int .i64 0, .int .i64 0, .int .i64 0, .int .i64 0, .int .i64 0, .int .i64 0, .int .i64 0, .int .i64 0, .int .i64 0, .int .i64 0, .int .i64 0]) gs (ofI (List.replicate 17 0)).toArray 98 := BK.setCells (List.replicate 17 (.int .i64 0)) 0 W4 (ofI (List.replicate 17 0)) bs (by simp [ofI])
  have hs5 : (W4.setCells gs 0 [.int .i64 0, .int .i64 0, .int .i64 0, .int .i64 0, .int .i64 0, .int .i64 0, .int .i64 0, .int .i64 0, .int .i64 0, .int .i64 0, .int .i64 0, .int .i64 0, .int .i64 0, .int .i64 0, .int .i64 0, .int .i64 0, .int .i64 0]).heap.size = gs + 1 := by rw [setCells_size, hs4]
  generalize W4.setCells gs 0 [.int .i64 0, .int .i64 0, .int .i64 0, .int .i64 0, .int .i64 0, .int .i64 0, .int .i64 0, .int .i64 0, .int .i64 0, .int .i64 0, .int .i64 0, .int .i64 0, .int .i64 0, .int .i64 0, .int .i64 0, .int .i64 0, .int .i64 0] = W5 at *
  have hC5 : Below n0 w W5 := hC.trans (hbS.mono (by omega))
  have hL5 : Lk W5 n0 s.most (.map (some gm)) z' := hL4.same (hbS.block n0 hgl4)
  have hM5 : MP W5 gm nn (fun v => (s.by_ v).map (fun x : Kw => x.1)) := hM4.kept (hbS.block gm hgm4)
  have HL5 := Lib.hid hL5
  have HM5 := Lib.hid hM5
  have HBS5 := Lib.hid bs5
  clear hbS hL4 hM4 hL5 hM5 hC
  go_wp2_with fail
  go_step3
  go_wp2_with fail
  clear hclr
  have hS5 := Lib.hid hs5
  clear hs5
  go_loopw [4, 6] (fun av yv wr => ∃ (j : Nat) (l : List Int), j ≤ E + 1 ∧ av = .int .i64 (back E s.by_ j v : Nat) ∧ Sn E s.by_ v j l ∧ BK wr gs (ofI l).toArray 98 ∧ OwnL wr (gs + 1) yv ((trail E s.by_ j v).map (fun x : Kw => x.1)) ∧ Below gs W5 wr ∧ gs + 1 ≤ wr.heap.size) (fun _ yv _ => E + 2 - slen yv)
  case atStart => exact ⟨0, _, by omega, rfl, Sn.zero, HBS5.out, OwnL.nil _ _, Below.refl _ _, Nat.le_of_eq hS5.out.symm⟩
  case round =>
    obtain ⟨j, l, hj, rfl, hsn, hbs, hown, hbr, hsz⟩ := hrel
    have hnb := HLT.out j
    have htl := trail_len (E := E) (b := s.by_) (v := v) j (fun i hi => HFAR.out i (by omega))
    have hCr : Below n0 w wr := hC5.trans (hbr.mono (by omega))
    have hLr := HL5.out.same (hbr.block n0 hgl4)
    have hMr := HM5.out.kept (hbr.block gm hgm4)
    obtain ⟨A, c, rfl⟩ := own_slice hown
    rw [List.length_map, htl] at hown ⊢
    have cs : wr.cell? ⟨gs, back E s.by_ j v, none⟩ = some (.int .i64 (nthI l (back E s.by_ j v))) := by
      rw [hbs.cell, List.getElem?_toArray]; exact ofI_get (by rw [hsn.len]; omega)
    have lgs := hbs.lt
    by_cases h0 : 0 < nthI l (back E s.by_ j v)
    · obtain ⟨i, hij, hbe, hni⟩ := hsn.hit hnb h0
      rw [hni] at cs
      obtain ⟨g, rfl⟩ : ∃ g, A = some ⟨g, 0, none⟩ := by
        rcases hown.2 with ⟨hv', h0'⟩ | ⟨g, cap, cur, hv', _⟩
        · rw [List.length_map, htl] at h0'; omega
        · injection hv' with hv' _ _; exact ⟨g, hv'⟩
      obtain ⟨hg1, hjc⟩ : gs + 1 ≤ g ∧ j ≤ c := by
        obtain ⟨cur, _, h1, _, h2, _⟩ := hown.blk
        exact ⟨h1, h2⟩
      obtain ⟨l0, hl0⟩ : ∃ l0, (trail E s.by_ j v).map (fun x : Kw => x.1) = l0 := ⟨_, rfl⟩
      have hlj : l0.length = j := by rw [← hl0, List.length_map, htl]
      rw [hl0] at hown
      have hdr := hown.drop (i := i) (by omega)
      have hx0 : (i : Int) + 1 > 0 := by omega
      have HNI := Lib.hid hni
      have hw1 : IntKind.i64.wrap ((i : Int) + 1 - 1) = (i : Int) := by rw [IntKind.wrap_i64]; omega
      have hij2 : (i : Int) ≤ (j : Int) := by omega
      have hjc2 : (j : Int) ≤ (c : Int) := by omega
      have hci : ¬ c = i := by omega
      rw [hni] at h0
      have HBE := Lib.hid hbe
      have HL0 := Lib.hid hl0
      have HLJ := Lib.hid hlj
      have HDR := Lib.hid hdr
      clear hni hbe hl0 hlj hdr hsn hown hLr hMr htl hbs
      go_wp2_with fail
      rename World => w6
      clear cs lgs hw1 hij2 hjc2 hci hx0 h0 hnb
      have hRl : (l0.drop i).length = j - i := by rw [List.length_drop, HLJ.out]
      obtain ⟨d, hd⟩ : ∃ d, j - i = d := ⟨_, rfl⟩
      obtain ⟨R, hRR⟩ : ∃ R, l0.drop i = R := ⟨_, rfl⟩
      rw [hRR, hd] at hRl
      rw [hRR, hd] at HDR
      rw [hd]
      obtain ⟨o, hoo⟩ : ∃ o, i * 3 = o := ⟨_, rfl⟩
      rw [hoo] at HDR ⊢
      obtain ⟨c1, hc1⟩ : ∃ c1, c - i = c1 := ⟨_, rfl⟩
      rw [hc1] at HDR ⊢
      have hd0 : 0 < d := by omega
      have hd17 : d ≤ 17 := by omega
      have HD := Lib.hid hd
      have HRR := Lib.hid hRR
      have HRL := Lib.hid hRl
      clear hd hRR hRl hoo hc1
      go_loopw [8, 49] (fun ov iv wr => ∃ k : Nat, k ≤ d ∧ iv = .int .i64 k ∧ OwnL wr w6.heap.size ov (R.reverse.take k) ∧ Below w6.heap.size w6 wr) (fun _ iv _ => d - (intOf iv).toNat)
      case atStart => exact ⟨0, Nat.zero_le _, rfl, OwnL.nil _ _, Below.refl _ _⟩
      case round =>
        rename World => wo
        obtain ⟨k, hk, rfl, hown, hbo⟩ := hrel
        by_cases hlt : k < d
        · have hrt := rev_take (l := R) (i := k) (by rw [HRL.out]; exact hlt)
          rw [HRL.out] at hrt
          obtain ⟨q, hq⟩ : ∃ q, d - 1 - k = q := ⟨_, rfl⟩
          rw [hq] at hrt
          have hqd : q < d := by omega
          obtain ⟨hgl, d1, d2, d3⟩ := HDR.out.at (k := q) (by rw [HRL.out]; exact hqd)
          rw [← hbo.cell (by exact hgl)] at d1 d2 d3
          have lgo : g < wo.heap.size := Nat.lt_of_lt_of_le hgl hbo.size
          generalize nthL R q = kk at *
          have w1 : IntKind.i64.wrap ((d : Int) - 1) = (d : Int) - 1 := by rw [IntKind.wrap_i64]; omega
          have w2 : IntKind.i64.wrap ((d : Int) - 1 - (k : Int)) = (q : Int) := by rw [IntKind.wrap_i64]; omega
          have w3 : (d : Int) - 1 - (k : Int) = (q : Int) := by omega
          obtain ⟨v', w9, hrun, hown', hb9, hs9, _⟩ := app_kl hown kk (by rw [List.length_take]; omega) hbo.size hbo wo.heap.size rfl
          rw [hrt] at hown'
          have HRUN := Lib.hid hrun
          have HO9 := Lib.hid hown'
          have HB9 := Lib.hid hb9
          clear hrun hown' hb9 hs9 hrt hown hq
          go_wp2_with (at_builtin; refine wpList_append_run rfl (.tmp 52) (.tmp 61) 25 _ rfl HRUN.out ?_)
          go_roundw
          case rel => exact ⟨k + 1, by omega, by go_num, HO9.out, HB9.out⟩
          case measure => simp [intOf]; omega
        · have hkd : k = d := by omega
          rw [hkd, List.take_of_length_le (by rw [List.length_reverse, HRL.out]; exact Nat.le_refl _)] at hown
          have HOW := Lib.hid hown
          clear hown hkd
          go_wp2_with fail
          obtain ⟨e, rfl⟩ : ∃ e, d = e + 1 := ⟨d - 1, by omega⟩
          have hje : j = i + (e + 1) := by have := HD.out; omega
          obtain ⟨a, ww, hw0, hra, hch, hmem⟩ := circ_raw HO.out HI.out (v := v) (i := i) (d := e + 1) (by omega) (fun m hm => HFAR.out m (by omega)) (by rw [← hje]; exact HBE.out.symm)
          obtain ⟨hcirc, hhead⟩ := circ_of HO.out hw0 hra hch hmem (by
            rw [List.length_reverse, List.length_drop, trail_len (E := E) (b := s.by_) (v := v) (i + (e + 1)) (fun m hm => HFAR.out m (by omega))]; omega)
          have hCeq : (((trail E s.by_ (i + (e + 1)) v).drop i).reverse).map (fun x : Kw => x.1) = R.reverse := by
            rw [List.map_reverse, List.map_drop, ← hje, HL0.out, HRR.out]
          rw [hCeq] at hcirc hhead
          have hCl : R.reverse.length = e + 1 := by rw [List.length_reverse, HRL.out]
          generalize R.reverse = C at *
          cases C with
          | nil => simp at hCl
          | cons k0 t0 =>
          have ht0 : t0.length = e := by rw [List.length_cons] at hCl; omega
          have hne : k0.src < 0 → 0 < t0.length := fun h => by
            cases t0 with
            | nil =>
              have := hhead k0 [] (by rw [turnC, if_pos h]; rfl)
              omega
            | cons x t => simp
          obtain ⟨f0, ft, hF⟩ : ∃ f0 ft, turnC (k0 :: t0) = f0 :: ft := by
            by_cases h : k0.src < 0
            · rw [turnC, if_pos h]
              cases t0 with
              | nil => exact ⟨k0, [], rfl⟩
              | cons x t => exact ⟨x, t ++ [k0], rfl⟩
            · rw [turnC, if_neg h]
              exact ⟨k0, t0, rfl⟩
          have hf0 := hhead f0 ft hF
          have HCI := Lib.hid hcirc
          have HF := Lib.hid hF
          have HNE := Lib.hid hne
          have HT0 := Lib.hid ht0
          have hFl : (turnC (k0 :: t0)).length = e + 1 := by
            by_cases h : k0.src < 0
            · rw [turnC, if_pos h, List.length_append, ht0]; rfl
            · rw [turnC, if_neg h, List.length_cons, ht0]
          have HFL := Lib.hid hFl
          have hCo : Below n0 w wo := hCr.trans (hbo.mono (by have := hCr.size; omega))
          clear hje hw0 hra hch hmem hcirc hhead hCeq hCl ht0 hne hF hFl
          go_loopw [8] (fun ov wr => Turn wr w6.heap.size ov (k0 :: t0) ∧ Below n0 w wr ∧ w6.heap.size ≤ wr.heap.size) (fun ov wr => neg1 ov wr)
          case atStart => exact ⟨.inl HOW.out, hCo, hbo.size⟩
          case round =>
            obtain ⟨hturn, hbt, hszt⟩ := hrel
            rename World => wt
            unfold Turn at hturn
            rcases hturn with hown | hrl
            · obtain ⟨A8, c8, rfl⟩ := own_slice hown
              have hlen0 : (k0 :: t0).length = e + 1 := by rw [List.length_cons, HT0.out]
              rw [hlen0] at hown ⊢
              obtain ⟨g8, rfl⟩ : ∃ g, A8 = some ⟨g, 0, none⟩ := by
                rcases hown.2 with ⟨hv', h0'⟩ | ⟨g, cap, cur, hv', _⟩
                · cases h0'
                · injection hv' with hv' _ _; exact ⟨g, hv'⟩
              obtain ⟨d1, d2, d3⟩ := hown.at (k := 0) (by simp)
              rw [Nat.zero_mul] at d1 d2 d3
              have hk0 : nthL (k0 :: t0) 0 = k0 := rfl
              rw [hk0] at d1 d2 d3
              rw [Nat.zero_add] at d2 d3
              have lg8 := hown.lt'.1
              by_cases hneg : k0.src < 0
              · have het : 0 < e := by have := HNE.out hneg; rw [HT0.out] at this; exact this
                have hce : e + 1 ≤ c8 := by
                  obtain ⟨cur, _, _, _, h2, _⟩ := hown.blk
                  exact h2
                have hc1 : ¬ c8 = 1 := by omega
                have hce2 : (e : Int) + 1 ≤ (c8 : Int) := by omega
                have h1e : (1 : Int) ≤ (e : Int) + 1 := by omega
                have hOX := Lib.hid hown
                have hng := Lib.hid (neg1_of (W := wt) (n := e + 1) (c := c8) d1)
                have htc : turnC (k0 :: t0) = t0 ++ [k0] := by rw [turnC, if_pos hneg]
                have HTC := Lib.hid htc
                have HNG := Lib.hid hneg
                clear hown hlen0 hk0 htc
                go_upto_region 21 with fail
                have hbX : Below wt.heap.size wt (wt.alloc (.cells #[.int .i64 k0.src, .int .i64 k0.dst, .int .i64 k0.tst] 44)).drew := (Below.alloc (Below.refl _ _) (Nat.le_refl _) _).drew
                have bX : BK (wt.alloc (.cells #[.int .i64 k0.src, .int .i64 k0.dst, .int .i64 k0.tst] 44)).drew wt.heap.size #[.int .i64 k0.src, .int .i64 k0.dst, .int .i64 k0.tst] 44 := (BK.new _ _ _).drew
                have hOt : OwnL (wt.alloc (.cells #[.int .i64 k0.src, .int .i64 k0.dst, .int .i64 k0.tst] 44)).drew w6.heap.size (.slice (some ⟨g8, 0, none⟩) (t0.length + 1) c8) (k0 :: t0) := by rw [HT0.out]; exact OwnL.below hOX.out hbX
                obtain ⟨v', w9, hrun, hr9, hbel⟩ := app_tail hOt (by rw [HT0.out]; exact het) bX (by rw [HT0.out]; omega) (by have := hbX.size; omega)
                rw [HT0.out] at hrun
                have hbt9 : Below n0 w w9 := hbt.trans ((hbel wt (hbX.mono hszt)).mono (by have := hCr.size; omega))
                have hsz9 : w6.heap.size ≤ w9.heap.size := Nat.le_trans hszt (hbel wt (hbX.mono hszt)).size
                have HRUN := Lib.hid hrun
                have HR9 := Lib.hid hr9
                have HBT9 := Lib.hid hbt9
                clear hrun hr9 hbt9 hbel hOt bX
                refine wp_region_noPanic (plain_any [0, 1, 2, 3, 4] (Below wt.heap.size wt) mixed ?_)
                (refine any_take 0 ?_ (by rfl) (by kernel_rfl) (fun _ _ _ _ _ hx => hx.elim) (.inl ⟨by rfl, ?_⟩) (by exact bel_of) ?_; rotate_left; (intro X hX; obtain ⟨r1, r2⟩ := Below.rules hX; clear hX; go_simp; rfl); simp only [List.getElem_toArray, List.getElem_cons_succ, List.getElem_cons_zero, Act.put, List.setIfInBounds_toArray, List.set_cons_succ, List.set_cons_zero])
                (refine any_take 1 ?_ (by rfl) (by kernel_rfl) (fun _ _ _ _ _ hx => hx.elim) (.inl ⟨by rfl, ?_⟩) (by exact bel_of) ?_; rotate_left; (intro X hX; obtain ⟨r1, r2⟩ := Below.rules hX; clear hX; go_simp; rfl); simp only [List.getElem_toArray, List.getElem_cons_succ, List.getElem_cons_zero, Act.put, List.setIfInBounds_toArray, List.set_cons_succ, List.set_cons_zero])
                (refine any_take 2 ?_ (by rfl) (by kernel_rfl) (fun _ _ _ _ _ hx => hx.elim) (.inl ⟨by rfl, ?_⟩) (by exact bel_of) ?_; rotate_left; (intro X hX; obtain ⟨r1, r2⟩ := Below.rules hX; clear hX; go_simp; rfl); simp only [List.getElem_toArray, List.getElem_cons_succ, List.getElem_cons_zero, Act.put, List.setIfInBounds_toArray, List.set_cons_succ, List.set_cons_zero])
                (refine any_take 3 ?_ (by rfl) (by kernel_rfl) (fun _ _ _ _ _ hx => hx.elim) (.inl ⟨by rfl, ?_⟩) (by exact bel_of) ?_; rotate_left; (intro X hX; obtain ⟨r1, r2⟩ := Below.rules hX; clear hX; go_simp; rfl); simp only [List.getElem_toArray, List.getElem_cons_succ, List.getElem_cons_zero, Act.put, List.setIfInBounds_toArray, List.set_cons_succ, List.set_cons_zero])
                (refine any_take 4 ?_ (by rfl) (by kernel_rfl) (fun _ _ _ _ _ hx => hx.elim) (.inl ⟨by rfl, ?_⟩) (by exact bel_of) ?_; rotate_left; (intro X hX; obtain ⟨r1, r2⟩ := Below.rules hX; clear hX; go_simp; rfl); simp only [List.getElem_toArray, List.getElem_cons_succ, List.getElem_cons_zero, Act.put, List.setIfInBounds_toArray, List.set_cons_succ, List.set_cons_zero])
                refine any_run1 (i := 5) (by kernel_rfl) (by rfl) (by kernel_rfl) ?_
                intro K3 hK3
                go_wp2_with fail
                refine hK3 _ _ (fun _ => hbX) ?_
                clear hK3 K3 d1 d2 d3
                generalize (wt.alloc (.cells #[.int .i64 k0.src, .int .i64 k0.dst, .int .i64 k0.tst] 44)).drew = WX at *
                refine any_run1 (i := 6) (by kernel_rfl) (by rfl) (by kernel_rfl) ?_
                intro K3 hK3
                refine wp_append_run (.tmp 70) (.tmp 74) 25 _ rfl HRUN.out ?_
                refine hK3 _ _ (fun hx => (Bool.false_ne_true (hx.symm.trans (by kernel_rfl))).elim) ?_
                clear hK3 K3
                simp only [List.getElem_toArray, List.getElem_cons_succ, List.getElem_cons_zero, Act.put, List.setIfInBounds_toArray, List.set_cons_succ, List.set_cons_zero]
                refine any_run1 (i := 7) (by kernel_rfl) (by rfl) (by kernel_rfl) ?_
                intro K3 hK3
                go_wp2_with fail
                refine hK3 _ _ (fun hx => (Bool.false_ne_true (hx.symm.trans (by kernel_rfl))).elim) ?_
                clear hK3 K3
                refine any_done (by kernel_rfl) (NoPanic.normal ?_)
                have hr9 := HR9.out
                rw [← HTC.out] at hr9
                have HR2 := Lib.hid hr9
                clear hr9
                go_wp2_with fail
                go_roundw
                case rel => first | exact ⟨.inr HR2.out, HBT9.out, hsz9⟩ | (refine ⟨_, .inr HR2.out, HBT9.out, hsz9⟩) | ((repeat apply Exists.intro); exact ⟨⟨.inr HR2.out, HBT9.out, hsz9⟩, rfl⟩)
                case measure =>
                  have hca := HR2.out.cells
                  obtain ⟨A9, c9, b9, o9, hv9, hA9, hc9⟩ := hca
                  rw [HFL.out] at hA9 hc9 hv9
                  obtain ⟨hA9, _⟩ := hA9 (by omega)
                  obtain ⟨e1, _, _⟩ := hc9 0 (by omega)
                  rw [HF.out, Nat.zero_mul, Nat.add_zero] at e1
                  subst hv9
                  subst hA9
                  have e2 := neg1_of (n := e + 1) (c := c9) e1
                  show neg1 (.slice (some ⟨b9, o9, none⟩) (e + 1) c9) w9 < neg1 (.slice (some ⟨g8, 0, none⟩) (e + 1) c8) wt
                  have hn2 := hng.out
                  rw [hn2, e2]
                  have : (nthL (f0 :: ft) 0).src = f0.src := rfl
                  have hn3 := HNG.out
                  omega
              · have hx1 : ¬ k0.src < 0 := hneg
                have htc : turnC (k0 :: t0) = k0 :: t0 := by rw [turnC, if_neg hneg]
                have hrl := hown.ri
                rw [← htc] at hrl
                have HRL2 := Lib.hid hrl
                clear hown hrl htc hneg hlen0 hk0 d2 d3
                go_wp2_with fail
                have hrl3 := HRL2.out
                exact bodyPost_ret (v := .slice (some ⟨g8, 0, none⟩) (e + 1) c8) (by simp [results, Try.results56, go_sem]) rfl (CircPost.some HNA.out hrl3 HCI.out (by rw [HF.out]; exact hf0) (by first | exact hbt | (rw [hn0]; exact hbt)))
            · have hca := hrl.cells
              obtain ⟨A8, c8, b8, o8, rfl, hA8, hc8⟩ := hca
              rw [HFL.out] at hA8 hrl hc8 ⊢
              obtain ⟨rfl, hb8⟩ := hA8 (by omega)
              obtain ⟨d1, _, _⟩ := hc8 0 (by omega)
              rw [HF.out] at d1
              have d1' : wt.cell? ⟨b8, o8, none⟩ = some (.int .i64 f0.src) := by simpa [nthL] using d1
              have HRL2 := Lib.hid hrl
              have hx1 : ¬ f0.src < 0 := by omega
              clear d1 hc8 hA8 hrl
              go_wp2_with fail
              exact bodyPost_ret (v := .slice (some ⟨b8, o8, none⟩) (e + 1) c8) (by simp [results, Try.results56, go_sem]) rfl (CircPost.some HNA.out HRL2.out HCI.out (by rw [HF.out]; exact hf0) (by first | exact hbt | (rw [hn0]; exact hbt)))
    · have hsn2 := hsn.next hE hnb h0
      have hj2 := hsn2.few HLT.out
      have hbs2 := hbs.set (back E s.by_ j v) (.int .i64 ((j : Int) + 1))
      rw [List.setIfInBounds_toArray, ofI_set] at hbs2
      have fs := hbs.frozen (back E s.by_ j v)
      have htl2 := trail_len (E := E) (b := s.by_) (v := v) (j + 1) (fun i hi => HFAR.out i (by omega))
      obtain ⟨l0, hl0⟩ : ∃ l0, (trail E s.by_ j v).map (fun x : Kw => x.1) = l0 := ⟨_, rfl⟩
      have hlj : l0.length = j := by rw [← hl0, List.length_map, htl]
      rw [hl0] at hown
      have hlk := (hMr.kept (W' := wr.setCell ⟨gs, back E s.by_ j v, none⟩ (.int .i64 ((j : Int) + 1))) (Below.heap_setCell _ _ _ _ (by show gm ≠ gs; omega))).get2 (back E s.by_ j v) (by omega)
      have hfa := HFAR.out j (by omega)
      have c17 := hLr.map_
      have lgl := hLr.lt
      have hx0 : ¬ nthI l (back E s.by_ j v) > 0 := h0
      generalize hbv : s.by_ (back E s.by_ j v) = bv at *
      cases bv with
      | none => exact absurd rfl hfa
      | some k =>
        have hsr := HBY.out _ _ hbv
        have hbk : back E s.by_ (j + 1) v = pl E k.1.src := by rw [back, hbv]; rfl
        have htr : (trail E s.by_ (j + 1) v).map (fun x : Kw => x.1) = l0 ++ [k.1] := by rw [trail_succ hbv, List.map_append, hl0]; rfl
        obtain ⟨⟨src, dst, tst⟩, kw⟩ := k
        dsimp only at hsr hbk htr
        simp only [Option.map_some, Option.getD_some] at hlk
        unfold klV at hlk
        dsimp only at hlk
        have HBK := Lib.hid hbk
        have HTR := Lib.hid htr
        have HSR := Lib.hid hsr
        have HSN2 := Lib.hid hsn2
        have HTL2 := Lib.hid htl2
        have HL0 := Lib.hid hl0
        have HLJ := Lib.hid hlj
        clear hbv hbk htr hsr hsn2 hsn htl2 hl0 hlj htl hfa hx0
        have hbrX : Below gs W5 (wr.setCell ⟨gs, back E s.by_ j v, none⟩ (.int .i64 ((j : Int) + 1))) := Below.setCell hbr (Nat.le_refl _) _
        have hwj : IntKind.i64.wrap ((j : Int) + 1) = (j : Int) + 1 := by rw [IntKind.wrap_i64]; omega
        have hgne : (Value.slice A j c).ownBlock ≠ some gs := fun hx => by have := (hown.lt _ hx).1; omega
        have hownX : OwnL (wr.setCell ⟨gs, back E s.by_ j v, none⟩ (.int .i64 ((j : Int) + 1))) (gs + 1) (.slice A j c) l0 := own_far hown (p := ⟨gs, back E s.by_ j v, none⟩) hgne _
        have hne7 : ∀ n, wr.heap.size = n → some n ≠ (Value.slice A j c).ownBlock := fun n hn hx => by have := (hown.lt _ hx.symm).2; omega
        have HNE7 := Lib.hid hne7
        clear hne7
        have hszX : (wr.setCell ⟨gs, back E s.by_ j v, none⟩ (.int .i64 ((j : Int) + 1))).heap.size = wr.heap.size := by simp [World.setCell]
        go_upto_region 11 with fail
        obtain ⟨g7, hg7⟩ : ∃ n, wr.heap.size = n := ⟨_, rfl⟩
        have hne7 := HNE7.out g7 hg7
        rw [hg7] at hszX hsz
        try rw [hg7]
        clear hlk cs lgs fs hLr hMr c17 lgl hbs hown hgne hg7 hnb h0 hCr hbr
        generalize wr.setCell ⟨gs, back E s.by_ j v, none⟩ (.int .i64 ((j : Int) + 1)) = WX at *
        have b7 : BK (WX.alloc (.cells #[.int .i64 src, .int .i64 dst, .int .i64 tst] 44)) g7 #[.int .i64 src, .int .i64 dst, .int .i64 tst] 44 := BK.new' _ _ _ g7 hszX
        have hb7 : Below WX.heap.size WX (WX.alloc (.cells #[.int .i64 src, .int .i64 dst, .int .i64 tst] 44)) := Below.alloc (Below.refl _ _) (Nat.le_refl _) _
        have hs7 : (WX.alloc (.cells #[.int .i64 src, .int .i64 dst, .int .i64 tst] 44)).heap.size = g7 + 1 := by simp [hszX]
        have hO7 := OwnL.below hownX hb7
        have hbs7 := hbs2.alloc (.cells #[.int .i64 src, .int .i64 dst, .int .i64 tst] 44)
        have hbr7 : Below gs W5 (WX.alloc (.cells #[.int .i64 src, .int .i64 dst, .int .i64 tst] 44)) := Below.alloc hbrX (by omega) _
        generalize WX.alloc (.cells #[.int .i64 src, .int .i64 dst, .int .i64 tst] 44) = W7 at *
        clear hszX hownX hbs2 hbrX hb7
        obtain ⟨v', w9, hrun, hown', hb9, hs9, hkeep, hkeep2⟩ := app_kl2 hO7 ⟨src, dst, tst⟩ (by rw [HLJ.out]; omega) (by omega) (g7 + 1) hs7
        have b79 : BK w9 g7 _ _ := (hkeep2 g7 b7.lt hne7).trans b7
        have hbs9 := hkeep _ _ _ hbs7 (by decide)
        obtain ⟨A9, c9, rfl⟩ := own_slice hown'
        have hlen9 : (l0 ++ [(⟨src, dst, tst⟩ : Kl)]).length = j + 1 := by rw [List.length_append, HLJ.out]; rfl
        rw [hlen9] at hown' hrun
        rw [← HTR.out] at hown'
        have hbr9 : Below gs W5 w9 := hbr7.trans (hb9.mono (by omega))
        have hC9 : Below n0 w w9 := hC5.trans (hbr9.mono (by omega))
        have hB9 : Bn w9 gb E vt ts bel top false := ⟨(hC9.block gb hgb).trans HB.out.1, (RS.below hR hC9).more (by have := hC9.size; omega), HB.out.2.2⟩
        have HRUN := Lib.hid hrun
        have HO9 := Lib.hid hown'
        have HBS9 := Lib.hid hbs9
        have HB9 := Lib.hid hbr9
        have HPL := Lib.hid (place_any E vt ts bel top false gb src w9 hB9)
        have l7 := b7.lt
        have y0 := b7.cell 0
        have y1 := b7.cell 1
        have y2 := b7.cell 2
        simp at y0 y1 y2
        have hl9 : g7 < w9.heap.size := by omega
        have hk9 := b79.cell 0
        simp at hk9
        clear hrun hown' hbs9 hbr9 hC9 hB9 hb9 hbs7 hbr7 hkeep hO7 hlen9 hkeep2 hne7 b79
        go_wp2_with (at_builtin; refine wpList_append_run rfl (.tmp 33) (.tmp 35) 25 _ rfl HRUN.out ?_)
        clear y0 y1 y2 l7
        go_wp2_with fail
        refine HPL.out.mono ?_
        rintro e wz ⟨rfl, rfl⟩
        go_wp2_with fail
        go_roundw
        case rel => exact ⟨j + 1, _, hj2, by rw [HBK.out], HSN2.out, HBS9.out, HO9.out, HB9.out, by omega⟩
        case measure => simp [slen]; omega

end Go.Proofs.Ytkljdbgkhghiaaa
