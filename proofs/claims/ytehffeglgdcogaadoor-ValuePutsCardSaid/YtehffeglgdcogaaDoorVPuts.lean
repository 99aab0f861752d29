/-
  ValuePuts, walked.
-/
import Derived.Test.YtehffeglgdcogaaDoorChecked
import Derived.Test.YtehffeglgdcogaaDoorVRPut
import Derived.Test.YtehffeglgdcogaaDoorVPutsL
import Derived.Test.YtehffeglgdcogaaDoorVGets
import Derived.Test.YtehffeglgdcogaaDoorLex
namespace Go.Proofs.YtehffeglgdcogaaDoor
open Go.RowKit B

theorem fput_le (f : Fld) : (fput f).length ≤ f.data.length + 20 := by
  have a := (vput_len 9 (fhead f)).2
  have b := (vput_len 9 f.int).2
  have c := (vput_len 9 f.data.length).2
  unfold fput
  split
  · rw [List.length_append]; omega
  · split
    · rw [List.length_append, le_len]; omega
    · split
      · rw [List.length_append, le_len]; omega
      · split
        · rw [List.length_append, List.length_append]; omega
        · simp
theorem putV_le {x : Val} (hs : x.t.size ≤ 2000) : (putV x).length ≤ 100000 := by
  unfold putV
  split
  · have := fput_le (fldV x (.slice none 0 0))
    have h2 : (fldV x (.slice none 0 0)).data.length ≤ 2000 := by
      show (if x.k = 1 then tx x.t else []).length ≤ 2000
      split
      · rw [tx_len]; exact hs
      · simp
    omega
  · simp

set_option maxRecDepth 100000 in
set_option maxHeartbeats 16000000 in
theorem valuePuts_walk (x : Val) (hx : I64 x.k ∧ U64 x.b ∧ x.t.size ≤ maxLen) (w : World) (hT : Tabs w) {R : Ending → World → Prop} (hR : ∀ w', Grow w w' → R (.returned (.bool true)) w') :
    Calls Tryd.prog 5 #[x.v] w R := by
  have HR := Lib.hid hR
  have HT := Lib.hid hT
  have LV := Lib.hid fun W (h : Tabs W) (R : Ending → World → Prop) hR => live8_any W h (R := R) hR
  have BX := Lib.hid (BoxH.laid #[.int .i64 x.k, .string x.t, .int .u64 x.b] 24 (Grow.refl w))
  obtain ⟨hk, hb, hm⟩ := hx
  unfold maxLen at hm
  clear hR hT
  obtain ⟨q, hq⟩ : ∃ q, decide ((500 : Int) < (x.t.size : Int)) = q := ⟨_, rfl⟩
  cases q with
  | true =>
    obtain ⟨k, t, b⟩ := x
    unfold Val.v at *
    dsimp only at *
    have x1 := BX.out.cell 1
    clear hk hb hm
    go_enter Tryd.func5, Tryd.ntmps5
    go_wp2_with fail
    clear x1
    go_at_call 6
    refine LV.out _ (HT.out.gr BX.out.grow) _ ?_
    intro w9 hg9
    have G9 := Lib.hid (BX.out.grow.tr hg9)
    clear hg9
    go_wp2
    exact HR.out _ G9.out
  | false =>
    have hs : x.t.size ≤ 2000 := by have := of_decide_eq_false hq; omega
    have VP := Lib.hid fun W (h : Tabs W) (R : Ending → World → Prop) hR => vput_any x hk hb hs W h (R := R) hR
    have RP := Lib.hid fun W (h : Tabs W) (R : Ending → World → Prop) hR => rvput_any x hk hb hs W h (R := R) hR
    have RI := Lib.hid fun W (h : Tabs W) (R : Ending → World → Prop) hR => right_any x (by omega) W h (R := R) hR
    have RR := Lib.hid fun W (h : Tabs W) (R : Ending → World → Prop) hR => rright_any x (by omega) W h (R := R) hR
    have KN := Lib.hid fun W (R : Ending → World → Prop) hR => name_any x W (R := R) hR
    have RK := Lib.hid fun W (R : Ending → World → Prop) hR => rname_any x W (R := R) hR
    have PL := Lib.hid fun W (R : Ending → World → Prop) hR => plain_any x W (R := R) hR
    have RL := Lib.hid fun W (R : Ending → World → Prop) hR => rplain_any x W (R := R) hR
    have LP := Lib.hid (putV_le hs)
    have GG := Lib.hid fun W v S (h : Rd W S 1 v (putV x).length (U8 (putV x))) (hT : Tabs W) (R : Ending → World → Prop) hR => vget_any (putV x) v S W h LP.out hT (R := R) hR
    obtain ⟨r, hr⟩ : ∃ r, rightV x = r := ⟨_, rfl⟩
    have GS : Hid (getS (putV x) = if r then (plainV x, 0) else (zeroV, 3)) := by
      show _ = _
      cases r with
      | true => exact getS_put hb hs hr
      | false => exact getS_not hr
    have PN : Hid (r = false → putV x = []) := fun h => put_not (hr.trans h)
    rw [GS.out] at GG
    rw [hr] at RI RR
    generalize putV x = pv at *
    generalize hp : plainV x = p at *
    generalize nameV x.k = nm at *
    clear hk hb hr hp hs hm GS
    obtain ⟨k, t, b⟩ := x
    obtain ⟨pk, pt, pb⟩ := p
    unfold zeroV at GG
    unfold Val.v at *
    dsimp only at *
    have x0 := BX.out.cell 0
    have x1 := BX.out.cell 1
    have x2 := BX.out.cell 2
    cases r with
    | false =>
      go_enter Tryd.func5, Tryd.ntmps5
      go_wp2_with fail
      clear hq
      go_at_call 14
      refine VP.out _ (HT.out.gr BX.out.grow) _ ?_
      intro bv w1 hO1 hg1
      have BX := Lib.hid (BX.out.tr hg1)
      have RB := Lib.hid fun W (hg : Grow w1 W) => ((Rd.own hO1).gr2 (by decide) hg)
      have SB := Lib.hid fun W (hg : Grow w1 W) => str_u8 ((Rd.own hO1).gr2 (by decide) hg)
      obtain ⟨BA, BC, hbv⟩ := own_slice hO1
      subst hbv
      clear hO1 hg1 x0 x1 x2
      go_wp2_with fail
      have BX0 := Lib.hid BX.out
      have BX := Lib.hid (BX.out.tr (Grow.refl _).dr)
      have G1 := Lib.hid ((Grow.refl w1).dr)
      refine wp_region_lex (w) (BX0.out.grow) [0, 2, 1, 3, 4, 5, 6, 7, 8, 9, 10, 11, 12, 13, 14, 16, 15, 17, 18, 19, 20, 21, 23, 22, 24, 25, 26] (by kernel_rfl) (by kernel_rfl) rfl (by kernel_rfl) (by intro c a d v w h; cases d <;> exact h) ?_
      iterate 2 (refine lex_take (v := ?_) rfl ?_ ?_ ?_; rotate_left; (rfl); (intro W h0 h1; have c0 := (BX.out.tr h1).cell 0; have c1 := (BX.out.tr h1).cell 1; have c2 := (BX.out.tr h1).cell 2; go_simp; with_reducible rfl); try simp only [Act.put, List.setIfInBounds_toArray, List.set_cons_zero, List.set_cons_succ])
      refine lex_turn rfl rfl rfl ?_; intro K hK; go_simp; go_at_call 15; refine RI.out _ (HT.out.gr BX.out.grow) _ ?_
      intro w2 hg2
      have BX := Lib.hid (BX.out.tr hg2)
      have G1 := Lib.hid (G1.out.tr hg2)
      refine hK.out _ _ BX.out.grow hg2 ?_
      clear hK hg2
      try simp only [Act.put, List.setIfInBounds_toArray, List.set_cons_zero, List.set_cons_succ]
      refine lex_turn rfl rfl rfl ?_; intro K hK; go_simp; go_at_call 16; refine RR.out _ (HT.out.gr BX.out.grow) _ ?_
      intro w2 hg2
      have BX := Lib.hid (BX.out.tr hg2)
      have G1 := Lib.hid (G1.out.tr hg2)
      refine hK.out _ _ BX.out.grow hg2 ?_
      clear hK hg2
      try simp only [Act.put, List.setIfInBounds_toArray, List.set_cons_zero, List.set_cons_succ]
      iterate 3 (refine lex_take (v := ?_) rfl ?_ ?_ ?_; rotate_left; (rfl); (intro W h0 h1; go_simp; with_reducible rfl); try simp only [Act.put, List.setIfInBounds_toArray, List.set_cons_zero, List.set_cons_succ])
      iterate 1 (refine lex_take (v := ?_) rfl ?_ ?_ ?_; rotate_left; (rfl); (intro W h0 h1; have s1 := SB.out _ (G1.out.tr h1); go_simp; with_reducible rfl); try simp only [Act.put, List.setIfInBounds_toArray, List.set_cons_zero, List.set_cons_succ])
      iterate 1 (refine lex_take (v := ?_) rfl ?_ ?_ ?_; rotate_left; (rfl); (intro W h0 h1; have c0 := (BX.out.tr h1).cell 0; have c1 := (BX.out.tr h1).cell 1; have c2 := (BX.out.tr h1).cell 2; go_simp; with_reducible rfl); try simp only [Act.put, List.setIfInBounds_toArray, List.set_cons_zero, List.set_cons_succ])
      refine lex_turn rfl rfl rfl ?_; intro K hK; go_simp; go_at_call 17; refine RP.out _ (HT.out.gr BX.out.grow) _ ?_; intro r2 w2 hO2 hg2
      have BX := Lib.hid (BX.out.tr hg2)
      have G1 := Lib.hid (G1.out.tr hg2)
      have S2 := Lib.hid fun W (hg : Grow w2 W) => str_u8 ((Rd.own hO2).gr2 (by decide) hg)
      refine hK.out _ _ BX.out.grow hg2 ?_
      clear hK hg2 hO2
      try simp only [Act.put, List.setIfInBounds_toArray, List.set_cons_zero, List.set_cons_succ]
      iterate 1 (refine lex_take (v := ?_) rfl ?_ ?_ ?_; rotate_left; (rfl); (intro W h0 h1; have s2 := S2.out _ h1; go_simp; with_reducible rfl); try simp only [Act.put, List.setIfInBounds_toArray, List.set_cons_zero, List.set_cons_succ])
      iterate 3 (refine lex_take (v := ?_) rfl ?_ ?_ ?_; rotate_left; (rfl); (intro W h0 h1; go_simp; with_reducible rfl); try simp only [Act.put, List.setIfInBounds_toArray, List.set_cons_zero, List.set_cons_succ])
      iterate 2 (refine lex_take (v := ?_) rfl ?_ ?_ ?_; rotate_left; (rfl); (intro W h0 h1; have c0 := (BX.out.tr h1).cell 0; have c1 := (BX.out.tr h1).cell 1; have c2 := (BX.out.tr h1).cell 2; go_simp; with_reducible rfl); try simp only [Act.put, List.setIfInBounds_toArray, List.set_cons_zero, List.set_cons_succ])
      refine lex_turn rfl rfl rfl ?_; intro K hK; go_simp; go_at_call 18; refine KN.out _ _ ?_
      intro w2 hg2
      have BX := Lib.hid (BX.out.tr hg2)
      have G1 := Lib.hid (G1.out.tr hg2)
      refine hK.out _ _ BX.out.grow hg2 ?_
      clear hK hg2
      try simp only [Act.put, List.setIfInBounds_toArray, List.set_cons_zero, List.set_cons_succ]
      refine lex_turn rfl rfl rfl ?_; intro K hK; go_simp; go_at_call 19; refine RK.out _ _ ?_
      intro w2 hg2
      have BX := Lib.hid (BX.out.tr hg2)
      have G1 := Lib.hid (G1.out.tr hg2)
      refine hK.out _ _ BX.out.grow hg2 ?_
      clear hK hg2
      try simp only [Act.put, List.setIfInBounds_toArray, List.set_cons_zero, List.set_cons_succ]
      iterate 3 (refine lex_take (v := ?_) rfl ?_ ?_ ?_; rotate_left; (rfl); (intro W h0 h1; go_simp; with_reducible rfl); try simp only [Act.put, List.setIfInBounds_toArray, List.set_cons_zero, List.set_cons_succ])
      iterate 2 (refine lex_take (v := ?_) rfl ?_ ?_ ?_; rotate_left; (rfl); (intro W h0 h1; have c0 := (BX.out.tr h1).cell 0; have c1 := (BX.out.tr h1).cell 1; have c2 := (BX.out.tr h1).cell 2; go_simp; with_reducible rfl); try simp only [Act.put, List.setIfInBounds_toArray, List.set_cons_zero, List.set_cons_succ])
      refine lex_turn rfl rfl rfl ?_; intro K hK; go_simp; go_at_call 20; refine PL.out _ _ ?_
      intro w2 hg2
      have BX := Lib.hid (BX.out.tr hg2)
      have G1 := Lib.hid (G1.out.tr hg2)
      refine hK.out _ _ BX.out.grow hg2 ?_
      clear hK hg2
      try simp only [Act.put, List.setIfInBounds_toArray, List.set_cons_zero, List.set_cons_succ]
      refine lex_turn rfl rfl rfl ?_; intro K hK; go_simp; go_at_call 21; refine RL.out _ _ ?_
      intro w2 hg2
      have BX := Lib.hid (BX.out.tr hg2)
      have G1 := Lib.hid (G1.out.tr hg2)
      refine hK.out _ _ BX.out.grow hg2 ?_
      clear hK hg2
      try simp only [Act.put, List.setIfInBounds_toArray, List.set_cons_zero, List.set_cons_succ]
      iterate 2 (refine lex_take (v := ?_) rfl ?_ ?_ ?_; rotate_left; (rfl); (intro W h0 h1; go_simp; with_reducible rfl); try simp only [Act.put, List.setIfInBounds_toArray, List.set_cons_zero, List.set_cons_succ])
      refine lex_nil ?_
      go_wp2_with fail
      go_at_call 11
      refine GG.out _ _ _ (RB.out _ G1.out) (HT.out.gr BX.out.grow) _ ?_
      intro w4 hg4
      have BV := Lib.hid (BoxH.laid #[.int .i64 0, .string ⟨#[]⟩, .int .u64 0] 24 (BX.out.grow.tr hg4))
      have BX := Lib.hid ((BX.out.tr hg4).tr ((Grow.refl _).al (.cells #[.int .i64 0, .string ⟨#[]⟩, .int .u64 0] 24)))
      have x0 := BX.out.cell 0
      have x1 := BX.out.cell 1
      have x2 := BX.out.cell 2
      clear hg4 SB RB
      go_wp2_with fail
      clear x0 x1 x2
      go_at_call 16
      refine RR.out _ (HT.out.gr BX.out.grow) _ ?_
      intro w5 hg5
      have BX := Lib.hid (BX.out.tr hg5)
      have BV := Lib.hid (BV.out.tr hg5)
      clear hg5
      have tl : ((pv.length : Int) == 0) = true := by rw [PN.out trivial]; rfl
      go_wp2_with fail
      go_at_call 13
      refine code8_any _ _ ?_
      go_wp2_with fail
      go_at_call 6
      refine LV.out _ (HT.out.gr BX.out.grow) _ ?_
      intro w9 hg9
      have G9 := Lib.hid (BX.out.grow.tr hg9)
      clear hg9
      go_wp2
      exact HR.out _ G9.out
    | true =>
      go_enter Tryd.func5, Tryd.ntmps5
      go_wp2_with fail
      clear hq
      go_at_call 14
      refine VP.out _ (HT.out.gr BX.out.grow) _ ?_
      intro bv w1 hO1 hg1
      have BX := Lib.hid (BX.out.tr hg1)
      have RB := Lib.hid fun W (hg : Grow w1 W) => ((Rd.own hO1).gr2 (by decide) hg)
      have SB := Lib.hid fun W (hg : Grow w1 W) => str_u8 ((Rd.own hO1).gr2 (by decide) hg)
      obtain ⟨BA, BC, hbv⟩ := own_slice hO1
      subst hbv
      clear hO1 hg1 x0 x1 x2
      go_wp2_with fail
      have BX0 := Lib.hid BX.out
      have BX := Lib.hid (BX.out.tr (Grow.refl _).dr)
      have G1 := Lib.hid ((Grow.refl w1).dr)
      refine wp_region_lex (w) (BX0.out.grow) [0, 2, 1, 3, 4, 5, 6, 7, 8, 9, 10, 11, 12, 13, 14, 16, 15, 17, 18, 19, 20, 21, 23, 22, 24, 25, 26] (by kernel_rfl) (by kernel_rfl) rfl (by kernel_rfl) (by intro c a d v w h; cases d <;> exact h) ?_
      iterate 2 (refine lex_take (v := ?_) rfl ?_ ?_ ?_; rotate_left; (rfl); (intro W h0 h1; have c0 := (BX.out.tr h1).cell 0; have c1 := (BX.out.tr h1).cell 1; have c2 := (BX.out.tr h1).cell 2; go_simp; with_reducible rfl); try simp only [Act.put, List.setIfInBounds_toArray, List.set_cons_zero, List.set_cons_succ])
      refine lex_turn rfl rfl rfl ?_; intro K hK; go_simp; go_at_call 15; refine RI.out _ (HT.out.gr BX.out.grow) _ ?_
      intro w2 hg2
      have BX := Lib.hid (BX.out.tr hg2)
      have G1 := Lib.hid (G1.out.tr hg2)
      refine hK.out _ _ BX.out.grow hg2 ?_
      clear hK hg2
      try simp only [Act.put, List.setIfInBounds_toArray, List.set_cons_zero, List.set_cons_succ]
      refine lex_turn rfl rfl rfl ?_; intro K hK; go_simp; go_at_call 16; refine RR.out _ (HT.out.gr BX.out.grow) _ ?_
      intro w2 hg2
      have BX := Lib.hid (BX.out.tr hg2)
      have G1 := Lib.hid (G1.out.tr hg2)
      refine hK.out _ _ BX.out.grow hg2 ?_
      clear hK hg2
      try simp only [Act.put, List.setIfInBounds_toArray, List.set_cons_zero, List.set_cons_succ]
      iterate 3 (refine lex_take (v := ?_) rfl ?_ ?_ ?_; rotate_left; (rfl); (intro W h0 h1; go_simp; with_reducible rfl); try simp only [Act.put, List.setIfInBounds_toArray, List.set_cons_zero, List.set_cons_succ])
      iterate 1 (refine lex_take (v := ?_) rfl ?_ ?_ ?_; rotate_left; (rfl); (intro W h0 h1; have s1 := SB.out _ (G1.out.tr h1); go_simp; with_reducible rfl); try simp only [Act.put, List.setIfInBounds_toArray, List.set_cons_zero, List.set_cons_succ])
      iterate 1 (refine lex_take (v := ?_) rfl ?_ ?_ ?_; rotate_left; (rfl); (intro W h0 h1; have c0 := (BX.out.tr h1).cell 0; have c1 := (BX.out.tr h1).cell 1; have c2 := (BX.out.tr h1).cell 2; go_simp; with_reducible rfl); try simp only [Act.put, List.setIfInBounds_toArray, List.set_cons_zero, List.set_cons_succ])
      refine lex_turn rfl rfl rfl ?_; intro K hK; go_simp; go_at_call 17; refine RP.out _ (HT.out.gr BX.out.grow) _ ?_; intro r2 w2 hO2 hg2
      have BX := Lib.hid (BX.out.tr hg2)
      have G1 := Lib.hid (G1.out.tr hg2)
      have S2 := Lib.hid fun W (hg : Grow w2 W) => str_u8 ((Rd.own hO2).gr2 (by decide) hg)
      refine hK.out _ _ BX.out.grow hg2 ?_
      clear hK hg2 hO2
      try simp only [Act.put, List.setIfInBounds_toArray, List.set_cons_zero, List.set_cons_succ]
      iterate 1 (refine lex_take (v := ?_) rfl ?_ ?_ ?_; rotate_left; (rfl); (intro W h0 h1; have s2 := S2.out _ h1; go_simp; with_reducible rfl); try simp only [Act.put, List.setIfInBounds_toArray, List.set_cons_zero, List.set_cons_succ])
      iterate 3 (refine lex_take (v := ?_) rfl ?_ ?_ ?_; rotate_left; (rfl); (intro W h0 h1; go_simp; with_reducible rfl); try simp only [Act.put, List.setIfInBounds_toArray, List.set_cons_zero, List.set_cons_succ])
      iterate 2 (refine lex_take (v := ?_) rfl ?_ ?_ ?_; rotate_left; (rfl); (intro W h0 h1; have c0 := (BX.out.tr h1).cell 0; have c1 := (BX.out.tr h1).cell 1; have c2 := (BX.out.tr h1).cell 2; go_simp; with_reducible rfl); try simp only [Act.put, List.setIfInBounds_toArray, List.set_cons_zero, List.set_cons_succ])
      refine lex_turn rfl rfl rfl ?_; intro K hK; go_simp; go_at_call 18; refine KN.out _ _ ?_
      intro w2 hg2
      have BX := Lib.hid (BX.out.tr hg2)
      have G1 := Lib.hid (G1.out.tr hg2)
      refine hK.out _ _ BX.out.grow hg2 ?_
      clear hK hg2
      try simp only [Act.put, List.setIfInBounds_toArray, List.set_cons_zero, List.set_cons_succ]
      refine lex_turn rfl rfl rfl ?_; intro K hK; go_simp; go_at_call 19; refine RK.out _ _ ?_
      intro w2 hg2
      have BX := Lib.hid (BX.out.tr hg2)
      have G1 := Lib.hid (G1.out.tr hg2)
      refine hK.out _ _ BX.out.grow hg2 ?_
      clear hK hg2
      try simp only [Act.put, List.setIfInBounds_toArray, List.set_cons_zero, List.set_cons_succ]
      iterate 3 (refine lex_take (v := ?_) rfl ?_ ?_ ?_; rotate_left; (rfl); (intro W h0 h1; go_simp; with_reducible rfl); try simp only [Act.put, List.setIfInBounds_toArray, List.set_cons_zero, List.set_cons_succ])
      iterate 2 (refine lex_take (v := ?_) rfl ?_ ?_ ?_; rotate_left; (rfl); (intro W h0 h1; have c0 := (BX.out.tr h1).cell 0; have c1 := (BX.out.tr h1).cell 1; have c2 := (BX.out.tr h1).cell 2; go_simp; with_reducible rfl); try simp only [Act.put, List.setIfInBounds_toArray, List.set_cons_zero, List.set_cons_succ])
      refine lex_turn rfl rfl rfl ?_; intro K hK; go_simp; go_at_call 20; refine PL.out _ _ ?_
      intro w2 hg2
      have BX := Lib.hid (BX.out.tr hg2)
      have G1 := Lib.hid (G1.out.tr hg2)
      refine hK.out _ _ BX.out.grow hg2 ?_
      clear hK hg2
      try simp only [Act.put, List.setIfInBounds_toArray, List.set_cons_zero, List.set_cons_succ]
      refine lex_turn rfl rfl rfl ?_; intro K hK; go_simp; go_at_call 21; refine RL.out _ _ ?_
      intro w2 hg2
      have BX := Lib.hid (BX.out.tr hg2)
      have G1 := Lib.hid (G1.out.tr hg2)
      refine hK.out _ _ BX.out.grow hg2 ?_
      clear hK hg2
      try simp only [Act.put, List.setIfInBounds_toArray, List.set_cons_zero, List.set_cons_succ]
      iterate 2 (refine lex_take (v := ?_) rfl ?_ ?_ ?_; rotate_left; (rfl); (intro W h0 h1; go_simp; with_reducible rfl); try simp only [Act.put, List.setIfInBounds_toArray, List.set_cons_zero, List.set_cons_succ])
      refine lex_nil ?_
      go_wp2_with fail
      go_at_call 11
      refine GG.out _ _ _ (RB.out _ G1.out) (HT.out.gr BX.out.grow) _ ?_
      intro w4 hg4
      have BV := Lib.hid (BoxH.laid #[.int .i64 pk, .string pt, .int .u64 pb] 24 (BX.out.grow.tr hg4))
      have BX := Lib.hid ((BX.out.tr hg4).tr ((Grow.refl _).al (.cells #[.int .i64 pk, .string pt, .int .u64 pb] 24)))
      have x0 := BX.out.cell 0
      have x1 := BX.out.cell 1
      have x2 := BX.out.cell 2
      clear hg4 SB RB
      go_wp2_with fail
      clear x0 x1 x2
      go_at_call 16
      refine RR.out _ (HT.out.gr BX.out.grow) _ ?_
      intro w5 hg5
      have BX := Lib.hid (BX.out.tr hg5)
      have BV := Lib.hid (BV.out.tr hg5)
      clear hg5
      skip
      go_wp2_with fail
      have BX0 := Lib.hid BX.out
      have BX := Lib.hid (BX.out.tr (Grow.refl _).dr)
      have BV := Lib.hid (BV.out.tr (Grow.refl _).dr)
      refine wp_region_lex (w) (BX0.out.grow) [0, 1, 2, 3, 4, 5, 6, 7, 8, 9, 10, 11, 12] (by kernel_rfl) (by kernel_rfl) rfl (by kernel_rfl) (by intro c a d v w h; cases d <;> exact h) ?_
      iterate 1 (refine lex_take (v := ?_) rfl ?_ ?_ ?_; rotate_left; (rfl); (intro W h0 h1; go_simp; with_reducible rfl); try simp only [Act.put, List.setIfInBounds_toArray, List.set_cons_zero, List.set_cons_succ])
      refine lex_turn rfl rfl rfl ?_; intro K hK; go_simp; go_at_call 13; refine code8_any _ _ ?_; refine hK.out _ _ BX.out.grow (Grow.refl _) ?_; clear hK
      try simp only [Act.put, List.setIfInBounds_toArray, List.set_cons_zero, List.set_cons_succ]
      iterate 2 (refine lex_take (v := ?_) rfl ?_ ?_ ?_; rotate_left; (rfl); (intro W h0 h1; go_simp; with_reducible rfl); try simp only [Act.put, List.setIfInBounds_toArray, List.set_cons_zero, List.set_cons_succ])
      iterate 1 (refine lex_take (v := ?_) rfl ?_ ?_ ?_; rotate_left; (rfl); (intro W h0 h1; have c0 := (BV.out.tr h1).cell 0; have c1 := (BV.out.tr h1).cell 1; have c2 := (BV.out.tr h1).cell 2; go_simp; with_reducible rfl); try simp only [Act.put, List.setIfInBounds_toArray, List.set_cons_zero, List.set_cons_succ])
      iterate 1 (refine lex_take (v := ?_) rfl ?_ ?_ ?_; rotate_left; (rfl); (intro W h0 h1; have c0 := (BX.out.tr h1).cell 0; have c1 := (BX.out.tr h1).cell 1; have c2 := (BX.out.tr h1).cell 2; go_simp; with_reducible rfl); try simp only [Act.put, List.setIfInBounds_toArray, List.set_cons_zero, List.set_cons_succ])
      refine lex_turn rfl rfl rfl ?_; intro K hK; go_simp; go_at_call 21; refine RL.out _ _ ?_
      intro w2 hg2
      have BX := Lib.hid (BX.out.tr hg2)
      have BV := Lib.hid (BV.out.tr hg2)
      refine hK.out _ _ BX.out.grow hg2 ?_
      clear hK hg2
      try simp only [Act.put, List.setIfInBounds_toArray, List.set_cons_zero, List.set_cons_succ]
      iterate 3 (refine lex_take (v := ?_) rfl ?_ ?_ ?_; rotate_left; (rfl); (intro W h0 h1; go_simp; with_reducible rfl); try simp only [Act.put, List.setIfInBounds_toArray, List.set_cons_zero, List.set_cons_succ])
      refine lex_turn rfl rfl rfl ?_; intro K hK; go_simp; go_at_call 6; refine LV.out _ (HT.out.gr BX.out.grow) _ ?_
      intro w2 hg2
      have BX := Lib.hid (BX.out.tr hg2)
      have BV := Lib.hid (BV.out.tr hg2)
      refine hK.out _ _ BX.out.grow hg2 ?_
      clear hK hg2
      try simp only [Act.put, List.setIfInBounds_toArray, List.set_cons_zero, List.set_cons_succ]
      iterate 2 (refine lex_take (v := ?_) rfl ?_ ?_ ?_; rotate_left; (rfl); (intro W h0 h1; go_simp; with_reducible rfl); try simp only [Act.put, List.setIfInBounds_toArray, List.set_cons_zero, List.set_cons_succ])
      refine lex_nil ?_
      go_wp2
      exact HR.out _ BX.out.grow
end Go.Proofs.YtehffeglgdcogaaDoor
