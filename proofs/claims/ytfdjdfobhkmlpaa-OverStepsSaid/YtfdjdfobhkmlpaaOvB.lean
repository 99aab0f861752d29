/-
  Overzooming: the reference's zooms; all points, scaled.
-/
import Derived.Test.YtfdjdfobhkmlpaaChecked
import Derived.Test.YtfdjdfobhkmlpaaOvA
import Derived.Test.YtfdjdfobhkmlpaaPRight
import Derived.Test.YtfdjdfobhkmlpaaNorm
namespace Go.Proofs.Ytfdjdfobhkmlpaa
open Go.RowKit B

set_option maxRecDepth 100000 in
set_option maxHeartbeats 4000000 in
theorem rright28_any (z : Zm) (e : Int) (w : World) {R : Ending → World → Prop} (hR : ∀ w', Grow w w' → R (.returned (.bool (zright z e))) w') :
    Calls Try.prog 12 #[.agg z.cells.toArray, .int .i64 e] w R := by
  have HR1 : ∀ c, zright z e = c → ∀ w', Grow w w' → R (.returned (.bool c)) w' := by rintro c rfl; exact hR
  have HR := Lib.hid HR1
  clear hR HR1
  obtain ⟨up, x, y, b⟩ := z
  unfold Zm.cells
  dsimp only
  have GA : Hid (Grow w (w.alloc (.cells #[.int .i64 up, .int .i64 x, .int .i64 y, .int .i64 b] 28))) := (Grow.refl _).al _
  have BZ : Hid (BoxH w w.heap.size #[.int .i64 up, .int .i64 x, .int .i64 y, .int .i64 b] 28 (w.alloc (.cells #[.int .i64 up, .int .i64 x, .int .i64 y, .int .i64 b] 28))) := BoxH.laid _ _ (Grow.refl w)
  obtain ⟨z0, z1, z2, z3⟩ := (⟨BZ.out.cell 0, BZ.out.cell 1, BZ.out.cell 2, BZ.out.cell 3⟩ : _ ∧ _ ∧ _ ∧ _)
  simp only [List.getElem?_toArray, List.getElem?_cons_zero, List.getElem?_cons_succ] at z0 z1 z2 z3
  by_cases h1 : e < 1
  · have t1 := decide_eq_true h1
    have EV : Hid (zright ⟨up, x, y, b⟩ e = false) := by
      cases h : zright ⟨up, x, y, b⟩ e with
      | false => rfl
      | true => exfalso; have := zright_iff h; dsimp only at this; omega
    go_enter Try.func12, Try.ntmps12
    go_wp2
    exact HR.out _ EV.out _ GA.out
  · have t1 := decide_eq_false h1
    by_cases h2 : 65536 < e
    · have t2 := decide_eq_true h2
      have EV : Hid (zright ⟨up, x, y, b⟩ e = false) := by
        cases h : zright ⟨up, x, y, b⟩ e with
        | false => rfl
        | true => exfalso; have := zright_iff h; dsimp only at this; omega
      go_enter Try.func12, Try.ntmps12
      go_wp2
      exact HR.out _ EV.out _ GA.out
    · have t2 := decide_eq_false h2
      by_cases h3 : up < 0
      · have t3 := decide_eq_true h3
        have EV : Hid (zright ⟨up, x, y, b⟩ e = false) := by
          cases h : zright ⟨up, x, y, b⟩ e with
          | false => rfl
          | true => exfalso; have := zright_iff h; dsimp only at this; omega
        go_enter Try.func12, Try.ntmps12
        go_wp2
        exact HR.out _ EV.out _ GA.out
      · have t3 := decide_eq_false h3
        by_cases h4 : 30 < up
        · have t4 := decide_eq_true h4
          have EV : Hid (zright ⟨up, x, y, b⟩ e = false) := by
            cases h : zright ⟨up, x, y, b⟩ e with
            | false => rfl
            | true => exfalso; have := zright_iff h; dsimp only at this; omega
          go_enter Try.func12, Try.ntmps12
          go_wp2
          exact HR.out _ EV.out _ GA.out
        · have t4 := decide_eq_false h4
          by_cases h5 : x < 0
          · have t5 := decide_eq_true h5
            have EV : Hid (zright ⟨up, x, y, b⟩ e = false) := by
              cases h : zright ⟨up, x, y, b⟩ e with
              | false => rfl
              | true => exfalso; have := zright_iff h; dsimp only at this; omega
            go_enter Try.func12, Try.ntmps12
            go_wp2
            exact HR.out _ EV.out _ GA.out
          · have t5 := decide_eq_false h5
            by_cases h6 : y < 0
            · have t6 := decide_eq_true h6
              have EV : Hid (zright ⟨up, x, y, b⟩ e = false) := by
                cases h : zright ⟨up, x, y, b⟩ e with
                | false => rfl
                | true => exfalso; have := zright_iff h; dsimp only at this; omega
              go_enter Try.func12, Try.ntmps12
              go_wp2
              exact HR.out _ EV.out _ GA.out
            · have t6 := decide_eq_false h6
              have EV : Hid (zright ⟨up, x, y, b⟩ e = (decide (x < pw up) && decide (y < pw up) && decide (0 ≤ b) && decide (b ≤ e))) := by
                show _ = _
                unfold zright zroom
                dsimp only
                rw [decide_eq_true (show 1 ≤ e by omega), decide_eq_true (show e ≤ 65536 by omega), decide_eq_true (show 0 ≤ up by omega), decide_eq_true (show up ≤ 30 by omega), decide_eq_true (show 0 ≤ x by omega), decide_eq_true (show 0 ≤ y by omega)]
                cases decide (x < pw up) <;> cases decide (y < pw up) <;> cases decide (0 ≤ b) <;> cases decide (b ≤ e) <;> rfl
              have PW := Lib.hid fun W (R : Ending → World → Prop) hR => power_any up W (by omega) (by omega) (R := R) hR
              generalize pw up = P at *
              obtain ⟨c1, g1⟩ : ∃ c, decide (x < P) = c := ⟨_, rfl⟩
              obtain ⟨c2, g2⟩ : ∃ c, decide (y < P) = c := ⟨_, rfl⟩
              obtain ⟨c3, g3⟩ : ∃ c, decide (0 ≤ b) = c := ⟨_, rfl⟩
              obtain ⟨c4, g4⟩ : ∃ c, decide (b ≤ e) = c := ⟨_, rfl⟩
              rw [g1, g2, g3, g4] at EV
              go_enter Try.func12, Try.ntmps12
              go_upto_region 3 with fail
              clear t1 t2 t3 t4 t5 t6 z0 z1 z2 z3
              generalize w.alloc (.cells #[.int .i64 up, .int .i64 x, .int .i64 y, .int .i64 b] 28) = wa at *
              refine wp_region_lexT (Grow wa.drew) ((Grow.refl _)) 23 [0, 1, 2, 3, 4, 5, 6, 7, 8, 9, 10, 11, 12, 13, 14, 15, 16, 17, 18, 19, 20, 21, 22] (by kernel_rfl) (by kernel_rfl) (by intro c a d v w h; cases d <;> exact h) ?_
              have GA := Lib.hid GA.out.dr
              have BZ := Lib.hid (BZ.out.tr (Grow.refl _).dr)
              generalize wa.drew = wb at *
              iterate 4 (apply lext_take; exact rfl; exact rfl; (intro W hW; have z0 := (BZ.out.tr hW).cell 0; have z1 := (BZ.out.tr hW).cell 1; have z2 := (BZ.out.tr hW).cell 2; have z3 := (BZ.out.tr hW).cell 3; simp only [List.getElem?_toArray, List.getElem?_cons_zero, List.getElem?_cons_succ] at z0 z1 z2 z3; (try clear hW); go_simp; with_reducible rfl); try simp only [Act.put, List.setIfInBounds_toArray, List.set_cons_zero, List.set_cons_succ])
              apply lext_turn; exact rfl; exact rfl; exact rfl; intro K hK; go_simp; go_at_call 28; refine PW.out _ _ ?_; refine hK.out _ _ (Grow.refl _) ?_; clear hK
              try simp only [Act.put, List.setIfInBounds_toArray, List.set_cons_zero, List.set_cons_succ]
              iterate 2 (apply lext_take; exact rfl; exact rfl; (intro W hW; have z0 := (BZ.out.tr hW).cell 0; have z1 := (BZ.out.tr hW).cell 1; have z2 := (BZ.out.tr hW).cell 2; have z3 := (BZ.out.tr hW).cell 3; simp only [List.getElem?_toArray, List.getElem?_cons_zero, List.getElem?_cons_succ] at z0 z1 z2 z3; (try clear hW); go_simp; with_reducible rfl); try simp only [Act.put, List.setIfInBounds_toArray, List.set_cons_zero, List.set_cons_succ])
              cases c1 with
              | false =>
                iterate 6 (apply lext_skip; exact rfl; exact rfl; try simp only [Act.put, List.setIfInBounds_toArray, List.set_cons_zero, List.set_cons_succ])
                iterate 2 (apply lext_take; exact rfl; exact rfl; (intro W hW; (try clear hW); go_simp; with_reducible rfl); try simp only [Act.put, List.setIfInBounds_toArray, List.set_cons_zero, List.set_cons_succ])
                iterate 3 (apply lext_skip; exact rfl; exact rfl; try simp only [Act.put, List.setIfInBounds_toArray, List.set_cons_zero, List.set_cons_succ])
                iterate 2 (apply lext_take; exact rfl; exact rfl; (intro W hW; (try clear hW); go_simp; with_reducible rfl); try simp only [Act.put, List.setIfInBounds_toArray, List.set_cons_zero, List.set_cons_succ])
                iterate 3 (apply lext_skip; exact rfl; exact rfl; try simp only [Act.put, List.setIfInBounds_toArray, List.set_cons_zero, List.set_cons_succ])
                refine lext_nil ?_
                simp only [List.drop_succ_cons, List.drop_zero]
                go_wp2
                exact HR.out _ EV.out _ GA.out
              | true =>
                iterate 4 (apply lext_take; exact rfl; exact rfl; (intro W hW; have z0 := (BZ.out.tr hW).cell 0; have z1 := (BZ.out.tr hW).cell 1; have z2 := (BZ.out.tr hW).cell 2; have z3 := (BZ.out.tr hW).cell 3; simp only [List.getElem?_toArray, List.getElem?_cons_zero, List.getElem?_cons_succ] at z0 z1 z2 z3; (try clear hW); go_simp; with_reducible rfl); try simp only [Act.put, List.setIfInBounds_toArray, List.set_cons_zero, List.set_cons_succ])
                apply lext_turn; exact rfl; exact rfl; exact rfl; intro K hK; go_simp; go_at_call 28; refine PW.out _ _ ?_; refine hK.out _ _ (Grow.refl _) ?_; clear hK
                try simp only [Act.put, List.setIfInBounds_toArray, List.set_cons_zero, List.set_cons_succ]
                iterate 3 (apply lext_take; exact rfl; exact rfl; (intro W hW; (try clear hW); go_simp; with_reducible rfl); try simp only [Act.put, List.setIfInBounds_toArray, List.set_cons_zero, List.set_cons_succ])
                cases c2 with
                | false =>
                  iterate 3 (apply lext_skip; exact rfl; exact rfl; try simp only [Act.put, List.setIfInBounds_toArray, List.set_cons_zero, List.set_cons_succ])
                  iterate 2 (apply lext_take; exact rfl; exact rfl; (intro W hW; (try clear hW); go_simp; with_reducible rfl); try simp only [Act.put, List.setIfInBounds_toArray, List.set_cons_zero, List.set_cons_succ])
                  iterate 3 (apply lext_skip; exact rfl; exact rfl; try simp only [Act.put, List.setIfInBounds_toArray, List.set_cons_zero, List.set_cons_succ])
                  refine lext_nil ?_
                  simp only [List.drop_succ_cons, List.drop_zero]
                  go_wp2
                  exact HR.out _ EV.out _ GA.out
                | true =>
                  iterate 3 (apply lext_take; exact rfl; exact rfl; (intro W hW; have z0 := (BZ.out.tr hW).cell 0; have z1 := (BZ.out.tr hW).cell 1; have z2 := (BZ.out.tr hW).cell 2; have z3 := (BZ.out.tr hW).cell 3; simp only [List.getElem?_toArray, List.getElem?_cons_zero, List.getElem?_cons_succ] at z0 z1 z2 z3; (try clear hW); go_simp; with_reducible rfl); try simp only [Act.put, List.setIfInBounds_toArray, List.set_cons_zero, List.set_cons_succ])
                  iterate 2 (apply lext_take; exact rfl; exact rfl; (intro W hW; (try clear hW); go_simp; with_reducible rfl); try simp only [Act.put, List.setIfInBounds_toArray, List.set_cons_zero, List.set_cons_succ])
                  cases c3 with
                  | false =>
                    iterate 3 (apply lext_skip; exact rfl; exact rfl; try simp only [Act.put, List.setIfInBounds_toArray, List.set_cons_zero, List.set_cons_succ])
                    refine lext_nil ?_
                    simp only [List.drop_succ_cons, List.drop_zero]
                    go_wp2
                    exact HR.out _ EV.out _ GA.out
                  | true =>
                    iterate 3 (apply lext_take; exact rfl; exact rfl; (intro W hW; have z0 := (BZ.out.tr hW).cell 0; have z1 := (BZ.out.tr hW).cell 1; have z2 := (BZ.out.tr hW).cell 2; have z3 := (BZ.out.tr hW).cell 3; simp only [List.getElem?_toArray, List.getElem?_cons_zero, List.getElem?_cons_succ] at z0 z1 z2 z3; (try clear hW); go_simp; with_reducible rfl); try simp only [Act.put, List.setIfInBounds_toArray, List.set_cons_zero, List.set_cons_succ])
                    refine lext_nil ?_
                    simp only [List.drop_succ_cons, List.drop_zero]
                    go_wp2
                    exact HR.out _ EV.out _ GA.out

set_option maxRecDepth 100000 in
set_option maxHeartbeats 4000000 in
theorem scaled_any (z : Zm) (e : Int) (l : List Pt) (v : Value) (S : Nat → Prop) (w : World) (hb : Rd w S 2 v l.length (Pts l)) (hl : l.length ≤ 100000) (hz : zright z e = true) (hin : ∀ p ∈ l, (-1048576 ≤ p.x ∧ p.x ≤ 1048576) ∧ -1048576 ≤ p.y ∧ p.y ≤ 1048576) {R : Ending → World → Prop}
    (hR : ∀ (r : Value) (w' : World), w'.ownsRow w.heap.size 36 2 r l.length (Pts (l.map (scl z e))) → Grow w w' → R (.returned r) w') :
    Calls Try.prog 19 #[v, .agg z.cells.toArray, .int .i64 e] w R := by
  have HR := Lib.hid hR
  clear hR
  have hb := hb.lt (by decide)
  obtain ⟨_, A, c, rfl, k1, k2, k3, k4⟩ := hb
  unfold maxLen at k2
  have HIN := Lib.hid hin
  have HZ := Lib.hid hz
  clear hin hz k3
  obtain ⟨wa, hwa⟩ : ∃ wa, wa = w.alloc (.cells z.cells.toArray 28) := ⟨_, rfl⟩
  have GA : Hid (Grow w wa) := by subst hwa; exact (Grow.refl _).al _
  have BZ : Hid (wa.heap[w.heap.size]? = some (.cells z.cells.toArray 28 (0, 0))) := by subst hwa; exact heap_alloc_new w _
  go_enter Try.func19, Try.ntmps19
  go_wp2
  rw [← hwa]
  clear hwa
  go_loopw [12, 7] (fun i s wr => ∃ (k : Nat), k ≤ l.length ∧ i = .int .i64 k ∧ wr.ownsRow wa.heap.size 36 2 s k (Pts ((l.take k).map (scl z e))) ∧ Hid (Grow wa wr)) (fun i _ _ => l.length - (intOf i).toNat)
  case atStart => exact ⟨0, Nat.zero_le _, rfl, World.ownsRow_nil _ _ _ _, Grow.refl _⟩
  case round =>
    obtain ⟨k, hk, rfl, hown, hg⟩ := hrel
    obtain ⟨ap, cp, rfl⟩ := own_slice hown
    by_cases hlt : k < l.length
    · obtain ⟨b, o, rfl, hS, hc⟩ := k4 (by omega)
      have e0 := flat_cells Pt.cells_len (GA.out.tr hg.out) hS hc hlt
      have TS : Hid (Pts ((l.take (k + 1)).map (scl z e)) = Pts ((l.take k).map (scl z e)) ++ (scl z e (l[k]'hlt)).cells) := by
        show _ = _
        rw [List.take_succ_eq_append_getElem hlt, List.map_append, Pts_app]
        simp [Pts]
      have HX := HIN.out (l[k]'hlt) (List.getElem_mem hlt)
      have SC := Lib.hid fun W (R : Ending → World → Prop) hR => oscale_any z e (l[k]'hlt) W HZ.out HX.1 HX.2 (R := R) hR
      have HO := Lib.hid hown
      clear hc k4 hown HX
      generalize (l[k]'hlt) = p at *
      obtain ⟨px, py⟩ := p
      have x0 := e0 0 _ rfl
      have x1 := e0 1 _ rfl
      simp only [Nat.add_zero] at x0
      clear e0
      generalize scl z e ⟨px, py⟩ = q at *
      obtain ⟨qx, qy⟩ := q
      unfold Pt.cells at SC TS
      dsimp only at SC TS
      go_upto_region 5 with fail
      have hg2 : Grow wr (wr.alloc (.cells #[.int .i64 px, .int .i64 py] 36)) := (Grow.refl _).al _
      have BP := (BoxH.laid #[.int .i64 px, .int .i64 py] 36 (Grow.refl wr))
      obtain ⟨y0, y1⟩ := (⟨BP.cell 0, BP.cell 1⟩ : _ ∧ _)
      simp only [List.getElem?_toArray, List.getElem?_cons_zero, List.getElem?_cons_succ] at y0 y1
      have HO := Lib.hid (own_grow HO.out hg2)
      have BZ' := Lib.hid (grow_blk (hg.out.tr hg2) BZ.out)
      have hg := Lib.hid (hg.out.tr hg2)
      clear hg2 BP x0 x1
      generalize wr.alloc (.cells #[.int .i64 px, .int .i64 py] 36) = w1 at *
      generalize wr.heap.size = pb at *
      go_wp2_with (refine wpList_load_row rfl 28 _ rfl w.heap.size rfl 28 _ _ _ BZ'.out Try.underlying28 rfl (by kernel_rfl) ?_)
      go_at_call 16
      refine SC.out _ _ ?_
      intro w2 hg2
      have HO := Lib.hid (own_grow HO.out hg2)
      have hg := Lib.hid (hg.out.tr hg2)
      clear hg2 BZ' SC y0 y1
      go_upto_region 6 with (at_builtin; refine wpList_newAt rfl _ _ rfl el_pt HO.out rfl 1 _ rfl _ rfl (by decide) rfl (by simp [Value.oneCell']) (by omega) hg.out ⟨Nat.le_refl _, hg.out.size⟩ ?_; intro v9 w9 hO9 hg9 hgr9 hb9)
      have HO9 := Lib.hid (own_eq hO9 rfl TS.out.symm)
      have HG9 := Lib.hid hg9
      clear hO9 hg9 hgr9 hb9 HO
      go_wp2
      go_roundw
      case rel => exact ⟨k + 1, by omega, by go_num, HO9.out, HG9.out⟩
      case measure => simp [intOf]; omega
    · obtain rfl : k = l.length := by omega
      rw [List.take_length] at hown
      have GF := Lib.hid (GA.out.tr hg.out)
      have HO := Lib.hid (own_base hown GA.out.size)
      clear k4 hown
      go_wp2
      exact HR.out _ _ HO.out GF.out
end Go.Proofs.Ytfdjdfobhkmlpaa
