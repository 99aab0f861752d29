/-
  RingWinds, walked.
-/
import Derived.Test.YtjcgkhcbdbbdkaaChecked
import Derived.Test.YtjcgkhcbdbbdkaaRW2
import Derived.Test.YtjcgkhcbdbbdkaaRW3
import Derived.Test.YtjcgkhcbdbbdkaaRngE
namespace Go.Proofs.Ytjcgkhcbdbbdkaa
open Go.RowKit B

/-- what RingWinds asks of each spot -/
theorem spots_in {l : List Pt} {lo hi : Int} (he : lineE l lo hi = 0) : ∀ s ∈ ringS l lo hi, s.rt ∧ 0 ≤ fcmpS s.x lo ∧ fcmpS s.x hi ≤ 0 ∧ 0 ≤ fcmpS s.y lo ∧ fcmpS s.y hi ≤ 0 := by
  intro s hs
  obtain ⟨h1, h2⟩ := ring_law he
  have hr := h2 s hs
  have hm : s.pq ∈ clip25Q l lo hi := by rw [← h1]; exact List.mem_map_of_mem hs
  obtain ⟨e1, e2, e3, e4⟩ := cring_in _ hm
  exact ⟨hr, (fcmp_val hr.1 lo).1.2 e1, (fcmp_val hr.1 hi).2.2 e2, (fcmp_val hr.2 lo).1.2 e3, (fcmp_val hr.2 hi).2.2 e4⟩

theorem Fr.at_ {f : Fr} {W : World} {b : Nat} {t : TypeId} {fr : Nat × Nat} (h : W.heap[b]? = some (.cells f.cells.toArray t fr)) :
    W.cell? ⟨b, 0, none⟩ = some (.int .i64 f.q) ∧ W.cell? ⟨b, 1, none⟩ = some (.int .u64 (f.r : Nat)) ∧ W.cell? ⟨b, 2, none⟩ = some (.int .u64 (f.d : Nat)) := by
  refine ⟨?_, ?_, ?_⟩ <;> (rw [cell_of_row _ _ _ _ _ _ h]; rfl)

set_option maxRecDepth 100000 in
set_option maxHeartbeats 16000000 in
theorem ringWinds_walk (l : List Pt) (lo hi : Int) (fx fy : Fr) (a : Value) (S : Nat → Prop) (w : World) (hl : Rd w S 2 a l.length (Pts l)) (hok : ∀ p ∈ l, p.ok) (hlo : I64 lo) (hhi : I64 hi) (hfx : fx.ok) (hfy : fy.ok)
    {R : Ending → World → Prop} (hR : ∀ w', Grow w w' → R (.returned (.bool true)) w') :
    Calls Try.prog 5 #[a, .int .i64 lo, .int .i64 hi, .agg fx.cells.toArray, .agg fy.cells.toArray] w R := by
  have HR := Lib.hid hR
  clear hR
  have hl := hl.lt (by decide)
  have HL := Lib.hid hl
  obtain ⟨_, A, c, rfl, k1, k2, k3, k4⟩ := hl
  unfold maxLen at k2
  obtain ⟨wa, hwa⟩ : ∃ wa, wa = (w.alloc (.cells fx.cells.toArray 26)).alloc (.cells fy.cells.toArray 26) := ⟨_, rfl⟩
  have GA : Hid (Grow w wa) := by subst hwa; exact ((Grow.refl w).al _).al _
  have BX : Hid (wa.heap[w.heap.size]? = some (.cells fx.cells.toArray 26 (0, 0))) := by
    subst hwa
    exact blk_al w _ _ ((Grow.refl _).al _)
  have BY : Hid (wa.heap[w.heap.size + 1]? = some (.cells fy.cells.toArray 26 (0, 0))) := by
    subst hwa
    have := blk_al (w.alloc (.cells fx.cells.toArray 26)) fy.cells.toArray 26 (Grow.refl _)
    rwa [World.size_alloc] at this
  have RX := Lib.hid fun W (R : Ending → World → Prop) hR => rright_any fx W hfx (R := R) hR
  have RY := Lib.hid fun W (R : Ending → World → Prop) hR => rright_any fy W hfy (R := R) hR
  by_cases hl1 : 30 < l.length
  · have t1 : decide ((30 : Int) < (l.length : Int)) = true := by rw [decide_eq_true_eq]; omega
    clear k4
    go_enter Try.func5, Try.ntmps5
    go_upto_region 1 with fail
    rw [← hwa]
    clear hwa
    go_wp2_with fail
    go_at_call 17
    refine live25_any _ ?_
    intro w9 hg9
    have G9 := Lib.hid (GA.out.tr hg9)
    clear hg9
    go_wp2
    exact HR.out _ G9.out
  · have t1 : decide ((30 : Int) < (l.length : Int)) = false := by rw [decide_eq_false_iff_not]; omega
    have RE := Lib.hid fun W (h : Grow w W) (R : Ending → World → Prop) hR => rlineE_any l lo hi _ _ W (HL.out.gr (by decide) h) (R := R) hR
    by_cases he : lineE l lo hi = 0
    · rw [he] at RE
      cases hrx : fx.right with
      | false =>
        rw [hrx] at RX
        clear k4
        go_enter Try.func5, Try.ntmps5
        go_upto_region 1 with fail
        rw [← hwa]
        clear hwa
        go_wp2_with fail
        go_at_call 19
        refine RE.out _ GA.out _ ?_
        intro w1 hg1
        have GA := Lib.hid (GA.out.tr hg1)
        have BX := Lib.hid (grow_blk hg1 BX.out)
        have BY := Lib.hid (grow_blk hg1 BY.out)
        clear hg1
        obtain ⟨x0, x1, x2⟩ := Fr.at_ BX.out
        obtain ⟨y0, y1, y2⟩ := Fr.at_ BY.out
        go_wp2_with fail
        go_at_call 23
        refine RX.out _ _ ?_
        intro w2 hg2
        have GA := Lib.hid (GA.out.tr hg2)
        clear hg2 x0 x1 x2 y0 y1 y2
        go_wp2_with fail
        go_at_call 17
        refine live25_any _ ?_
        intro w9 hg9
        have G9 := Lib.hid (GA.out.tr hg9)
        clear hg9
        go_wp2
        exact HR.out _ G9.out
      | true =>
        rw [hrx] at RX
        cases hry : fy.right with
        | false =>
          rw [hry] at RY
          clear k4
          go_enter Try.func5, Try.ntmps5
          go_upto_region 1 with fail
          rw [← hwa]
          clear hwa
          go_wp2_with fail
          go_at_call 19
          refine RE.out _ GA.out _ ?_
          intro w1 hg1
          have GA := Lib.hid (GA.out.tr hg1)
          have BX := Lib.hid (grow_blk hg1 BX.out)
          have BY := Lib.hid (grow_blk hg1 BY.out)
          clear hg1
          obtain ⟨x0, x1, x2⟩ := Fr.at_ BX.out
          obtain ⟨y0, y1, y2⟩ := Fr.at_ BY.out
          go_wp2_with fail
          go_at_call 23
          refine RX.out _ _ ?_
          intro w2 hg2
          have GA := Lib.hid (GA.out.tr hg2)
          have BX := Lib.hid (grow_blk hg2 BX.out)
          have BY := Lib.hid (grow_blk hg2 BY.out)
          clear hg2 x0 x1 x2 y0 y1 y2
          obtain ⟨x0, x1, x2⟩ := Fr.at_ BX.out
          obtain ⟨y0, y1, y2⟩ := Fr.at_ BY.out
          go_wp2_with fail
          go_at_call 23
          refine RY.out _ _ ?_
          intro w3 hg3
          have GA := Lib.hid (GA.out.tr hg3)
          clear hg3 x0 x1 x2 y0 y1 y2
          go_wp2_with fail
          go_at_call 17
          refine live25_any _ ?_
          intro w9 hg9
          have G9 := Lib.hid (GA.out.tr hg9)
          clear hg9
          go_wp2
          exact HR.out _ G9.out
        | true =>
          rw [hry] at RY
          have CA := Lib.hid fun W (h : Grow w W) (R : Ending → World → Prop) hR => clip25_any l lo hi _ _ W (HL.out.gr (by decide) h) (by omega) hok hlo hhi (R := R) hR
          have r1 : ringR l lo hi = ringS l lo hi := by unfold ringR; rw [if_pos he]
          rw [he, r1] at CA
          have RLB : Hid ((ringS l lo hi).length ≤ 1000) := by show _ ≤ _; have := (ringTo_ok hlo hhi hok 4 (by decide)).2; unfold ringS; rw [List.length_map]; omega
          have SI := Lib.hid (spots_in he)
          have RQ := Lib.hid (ring_law he).1
          have LLE : Hid (lo ≤ hi) := (lineE_far he).1
          have TX := Lib.hid fun W (R : Ending → World → Prop) hR => rat_q fx W hfx (by have := (Fr.right_iff hrx).2; omega) (R := R) hR
          have TY := Lib.hid fun W (R : Ending → World → Prop) hR => rat_q fy W hfy (by have := (Fr.right_iff hry).2; omega) (R := R) hR
          have HI := Lib.hid (And.intro hlo hhi)
          have HOK := Lib.hid hok
          have LN := Lib.hid (show l.length ≤ 30 by omega)
          generalize ringS l lo hi = ra at *
          clear r1 hlo hhi hfx hfy hrx hry he hok
          go_enter Try.func5, Try.ntmps5
          go_upto_region 1 with fail
          rw [← hwa]
          clear hwa
          go_wp2_with fail
          go_at_call 19
          refine RE.out _ GA.out _ ?_
          intro w1 hg1
          have GA := Lib.hid (GA.out.tr hg1)
          have BX := Lib.hid (grow_blk hg1 BX.out)
          have BY := Lib.hid (grow_blk hg1 BY.out)
          clear hg1 RE
          obtain ⟨x0, x1, x2⟩ := Fr.at_ BX.out
          obtain ⟨y0, y1, y2⟩ := Fr.at_ BY.out
          go_wp2_with fail
          go_at_call 23
          refine RX.out _ _ ?_
          intro w2 hg2
          have GA := Lib.hid (GA.out.tr hg2)
          have BX := Lib.hid (grow_blk hg2 BX.out)
          have BY := Lib.hid (grow_blk hg2 BY.out)
          clear hg2 x0 x1 x2 y0 y1 y2
          obtain ⟨x0, x1, x2⟩ := Fr.at_ BX.out
          obtain ⟨y0, y1, y2⟩ := Fr.at_ BY.out
          go_wp2_with fail
          go_at_call 23
          refine RY.out _ _ ?_
          intro w3 hg3
          have GA := Lib.hid (GA.out.tr hg3)
          have BX := Lib.hid (grow_blk hg3 BX.out)
          have BY := Lib.hid (grow_blk hg3 BY.out)
          clear hg3 RX RY t1 x0 x1 x2 y0 y1 y2
          go_wp2_with fail
          go_at_call 18
          refine CA.out _ GA.out _ ?_
          intro r5 w5 hO5 hg5
          have RA := Lib.hid (Rd.own_lt hO5)
          have GA := Lib.hid (GA.out.tr hg5)
          have BX := Lib.hid (grow_blk hg5 BX.out)
          have BY := Lib.hid (grow_blk hg5 BY.out)
          obtain ⟨A5, c5, rfl⟩ := own_slice hO5
          clear hO5 hg5 CA
          have RA0 := Lib.hid RA.out
          obtain ⟨_, A', c', hv, -, p2, -, p4⟩ := RA.out
          injection hv with e1 e2 e3
          clear e2
          subst e1 e3
          unfold maxLen at p2
          clear RA
          have RL := RLB.out
          go_wp2_with fail
          go_at_call 20
          refine code25_any _ _ ?_
          go_wp2
          go_loopw [13] (fun i wr => ∃ (j : Nat), j ≤ ra.length ∧ i = .int .i64 j ∧ Hid (Grow w5 wr)) (fun i _ => ra.length - (intOf i).toNat)
          case atStart => exact ⟨0, Nat.zero_le _, rfl, Grow.refl _⟩
          case round =>
            obtain ⟨j, hj, rfl, hg⟩ := hrel
            by_cases hlt : j < ra.length
            · obtain ⟨b5, o5, rfl, hS5, hc5⟩ := p4 (by omega)
              have e0 := fun W (h : Grow w5 W) => flat_cells Spot.cells_len h hS5 hc5 hlt
              obtain ⟨⟨rt1, rt2⟩, m1, m2, m3, m4⟩ := SI.out _ (List.getElem_mem hlt)
              have so : (ra[j]'hlt).ok := rt_ok25 ⟨rt1, rt2⟩
              have E := Lib.hid fun W (h : Grow w5 W) => (⟨e0 W h 0 _ rfl, e0 W h 1 _ rfl, e0 W h 2 _ rfl, e0 W h 3 _ rfl, e0 W h 4 _ rfl, e0 W h 5 _ rfl⟩ : W.cell? ⟨b5, o5 + j * 6, none⟩ = some (.int .i64 (ra[j]'hlt).x.q) ∧ W.cell? ⟨b5, o5 + j * 6 + 1, none⟩ = some (.int .u64 ((ra[j]'hlt).x.r : Nat)) ∧ W.cell? ⟨b5, o5 + j * 6 + 2, none⟩ = some (.int .u64 ((ra[j]'hlt).x.d : Nat)) ∧ W.cell? ⟨b5, o5 + j * 6 + 3, none⟩ = some (.int .i64 (ra[j]'hlt).y.q) ∧ W.cell? ⟨b5, o5 + j * 6 + 4, none⟩ = some (.int .u64 ((ra[j]'hlt).y.r : Nat)) ∧ W.cell? ⟨b5, o5 + j * 6 + 5, none⟩ = some (.int .u64 ((ra[j]'hlt).y.d : Nat)))
              have S1 := Lib.hid fun W (R : Ending → World → Prop) hR => rright_any (ra[j]'hlt).x W so.1 (R := R) hR
              have S2 := Lib.hid fun W (R : Ending → World → Prop) hR => rright_any (ra[j]'hlt).y W so.2 (R := R) hR
              have S3 := Lib.hid fun W (R : Ending → World → Prop) hR => fcmp_any (ra[j]'hlt).x lo W so.1 (R := R) hR
              have S4 := Lib.hid fun W (R : Ending → World → Prop) hR => fcmp_any (ra[j]'hlt).x hi W so.1 (R := R) hR
              have S5 := Lib.hid fun W (R : Ending → World → Prop) hR => fcmp_any (ra[j]'hlt).y lo W so.2 (R := R) hR
              have S6 := Lib.hid fun W (R : Ending → World → Prop) hR => fcmp_any (ra[j]'hlt).y hi W so.2 (R := R) hR
              rw [rt1] at S1
              rw [rt2] at S2
              unfold fcmpS at m1 m2 m3 m4
              generalize (if (ra[j]'hlt).x.right = true then orL [cmpI' (ra[j]'hlt).x.q lo, cmpI' ((ra[j]'hlt).x.r : Int) 0] else 0) = n1 at *
              generalize (if (ra[j]'hlt).x.right = true then orL [cmpI' (ra[j]'hlt).x.q hi, cmpI' ((ra[j]'hlt).x.r : Int) 0] else 0) = n2 at *
              generalize (if (ra[j]'hlt).y.right = true then orL [cmpI' (ra[j]'hlt).y.q lo, cmpI' ((ra[j]'hlt).y.r : Int) 0] else 0) = n3 at *
              generalize (if (ra[j]'hlt).y.right = true then orL [cmpI' (ra[j]'hlt).y.q hi, cmpI' ((ra[j]'hlt).y.r : Int) 0] else 0) = n4 at *
              have y1 : decide (n1 < 0) = false := by rw [decide_eq_false_iff_not]; omega
              have y2 : decide (0 < n2) = false := by rw [decide_eq_false_iff_not]; omega
              have y3 : decide (n3 < 0) = false := by rw [decide_eq_false_iff_not]; omega
              have y4 : decide (0 < n4) = false := by rw [decide_eq_false_iff_not]; omega
              clear e0 hc5 p4 rt1 rt2 m1 m2 m3 m4 so
              generalize (ra[j]'hlt) = x at *
              obtain ⟨⟨q1, r1, d1⟩, ⟨q2, r2, d2⟩⟩ := x
              unfold Fr.cells at S1 S2 S3 S4 S5 S6
              dsimp only at E S1 S2 S3 S4 S5 S6
              obtain ⟨v0, v1, v2, v3, v4, v5⟩ := E.out _ hg.out
              go_wp2_with fail
              go_at_call 23
              refine S1.out _ _ ?_
              intro w6 hg6
              have hg := Lib.hid (hg.out.tr hg6)
              clear hg6 v0 v1 v2 v3 v4 v5 S1
              obtain ⟨v0, v1, v2, v3, v4, v5⟩ := E.out _ hg.out
              go_wp2_with fail
              go_at_call 23
              refine S2.out _ _ ?_
              intro w6 hg6
              have hg := Lib.hid (hg.out.tr hg6)
              clear hg6 v0 v1 v2 v3 v4 v5 S2
              obtain ⟨v0, v1, v2, v3, v4, v5⟩ := E.out _ hg.out
              go_wp2_with fail
              go_at_call 24
              refine S3.out _ _ ?_
              intro w6 hg6
              have hg := Lib.hid (hg.out.tr hg6)
              clear hg6 v0 v1 v2 v3 v4 v5 S3
              obtain ⟨v0, v1, v2, v3, v4, v5⟩ := E.out _ hg.out
              go_wp2_with fail
              go_at_call 24
              refine S4.out _ _ ?_
              intro w6 hg6
              have hg := Lib.hid (hg.out.tr hg6)
              clear hg6 v0 v1 v2 v3 v4 v5 S4
              obtain ⟨v0, v1, v2, v3, v4, v5⟩ := E.out _ hg.out
              go_wp2_with fail
              go_at_call 24
              refine S5.out _ _ ?_
              intro w6 hg6
              have hg := Lib.hid (hg.out.tr hg6)
              clear hg6 v0 v1 v2 v3 v4 v5 S5
              obtain ⟨v0, v1, v2, v3, v4, v5⟩ := E.out _ hg.out
              go_wp2_with fail
              go_at_call 24
              refine S6.out _ _ ?_
              intro w6 hg6
              have hg := Lib.hid (hg.out.tr hg6)
              clear hg6 v0 v1 v2 v3 v4 v5 S6
              go_wp2
              go_roundw
              case rel => exact ⟨j + 1, by omega, by go_num, hg.out⟩
              case measure => simp [intOf]; omega
            · obtain rfl : j = ra.length := by omega
              clear p4
              have GA := Lib.hid (GA.out.tr hg.out)
              have BX := Lib.hid (grow_blk hg.out BX.out)
              have BY := Lib.hid (grow_blk hg.out BY.out)
              have RA0 := Lib.hid (RA0.out.gr (by decide) hg.out)
              clear hg
              go_upto_region 11 with fail
              refine wp_region_free1 ⟨5, some 14, 37, zeroPV.cells.toArray⟩ 6 [0, 2, 1, 3, 4] (by kernel_rfl) (by kernel_rfl) ⟨_, rfl, rfl, rfl, fun a W K h => by go_simp; exact h⟩ (by intro c a d v w h; cases d <;> exact h) rfl ?_
              have GD := (Grow.refl wr).dr
              have GA := Lib.hid (GA.out.tr GD)
              have BX := Lib.hid (grow_blk GD BX.out)
              have BY := Lib.hid (grow_blk GD BY.out)
              have RA0 := Lib.hid (RA0.out.gr (by decide) GD)
              have GB : Hid (Grow wr.drew wr.drew) := Grow.refl _
              have EW : Hid (wr.drew.heap.size = wr.heap.size) := rfl
              clear GD
              generalize wr.drew = wb at *
              apply fr1_take; exact rfl; (simp); (intro x1; exact rfl)
              · intro x1 W' hW
                exact exec_load_row 26 _ rfl w.heap.size rfl 26 _ _ _ (grow_blk hW BX.out) rfl Try.underlying26 (by kernel_rfl)
              simp only [Act.put, List.setIfInBounds_toArray, List.set_cons_zero, List.set_cons_succ]
              apply fr1_take; exact rfl; (simp); (intro x1; exact rfl)
              · intro x1 W' hW
                exact exec_load_row 26 _ rfl (w.heap.size + 1) rfl 26 _ _ _ (grow_blk hW BY.out) rfl Try.underlying26 (by kernel_rfl)
              simp only [Act.put, List.setIfInBounds_toArray, List.set_cons_zero, List.set_cons_succ]
              apply fr1_turn; exact rfl; exact rfl; (simp); (intro x1; exact rfl)
              intro x1 W5 hW K hK
              simp only [Act.put, List.setIfInBounds_toArray, List.set_cons_zero, List.set_cons_succ]
              go_simp
              go_at_call 25
              refine TX.out _ _ ?_
              intro rx w6 hg hq1 hr1
              have VX := Lib.hid (hr1.into (T := fun _ => True) fun _ _ => trivial)
              have QX := Lib.hid hq1
              clear hq1 hr1
              have GB := Lib.hid (GB.out.tr (hW.tr hg))
              refine hK.out _ _ hg ?_
              clear hK hW hg
              simp only [Act.put, List.setIfInBounds_toArray, List.set_cons_zero, List.set_cons_succ]
              apply fr1_turn; exact rfl; exact rfl; (simp); (intro x1; exact rfl)
              intro x1 W5 hW K hK
              simp only [Act.put, List.setIfInBounds_toArray, List.set_cons_zero, List.set_cons_succ]
              go_simp
              go_at_call 25
              refine TY.out _ _ ?_
              intro ry w7 hg hq1 hr1
              have VX := Lib.hid (VX.out.gr (hW.tr hg))
              have VY := Lib.hid (hr1.into (T := fun _ => True) fun _ _ => trivial)
              have QY := Lib.hid hq1
              clear hq1 hr1
              have GB := Lib.hid (GB.out.tr (hW.tr hg))
              refine hK.out _ _ hg ?_
              clear hK hW hg
              simp only [Act.put, List.setIfInBounds_toArray, List.set_cons_zero, List.set_cons_succ]
              obtain ⟨pl, hpl⟩ : ∃ pl : PV, pl = ⟨rx, ry⟩ := ⟨_, rfl⟩
              have PX : Hid (pl.x = rx) := by rw [hpl]; rfl
              have PY : Hid (pl.y = ry) := by rw [hpl]; rfl
              apply fr1_take (v := .agg pl.cells.toArray); exact rfl; (simp); (intro x1; exact rfl)
              · intro x1 W' hW
                clear hW
                subst hpl
                obtain ⟨⟨a1, a2, a3, a4⟩, ⟨a5, a6, a7, a8⟩, aq⟩ := rx
                obtain ⟨⟨b1, b2, b3, b4⟩, ⟨b5, b6, b7, b8⟩, bq⟩ := ry
                unfold RV.cells PV.cells
                simp only [Act.put, List.setIfInBounds_toArray, List.set_cons_zero, List.set_cons_succ]
                go_simp
              simp only [Act.put, List.setIfInBounds_toArray, List.set_cons_zero, List.set_cons_succ]
              refine fr1_nil ?_
              intro pb V hV hb
              have VX := Lib.hid (VX.out.gr hV)
              have VY := Lib.hid (VY.out.gr hV)
              have GV := Lib.hid (GB.out.tr hV)
              have FP0 : Hid (V.heap[pb]? = some (.cells zeroPV.cells.toArray 37 (0, 0))) := hb.1
              have LB : Hid (wb.heap.size ≤ pb) := by show _ ≤ _; rw [EW.out]; exact hb.2.1
              clear hV hb GB hpl BX BY
              unfold ptrTo
              simp only [Act.put, List.setIfInBounds_toArray, List.set_cons_zero, List.set_cons_succ, List.drop_succ_cons, List.drop_zero]
              have BN : BoxN V pb := ⟨_, _, _, FP0.out, PV.noint _⟩
              have VX : Hid (rx.rd (V.setRow pb pl.cells.toArray) (fun _ => True) 9) := VX.out.row BN _
              have VY : Hid (ry.rd (V.setRow pb pl.cells.toArray) (fun _ => True) 9) := VY.out.row BN _
              have GN : Hid (Grow wb (V.setRow pb pl.cells.toArray)) := GV.out.row LB.out _
              have FP : Hid ((V.setRow pb pl.cells.toArray).heap[pb]? = some (.cells pl.cells.toArray 37 (0, 0))) := setRow_heap _ _ _ _ _ _ FP0.out
              go_upto_region 12 with (refine wpList_store_row rfl 37 _ _ rfl pb pl.cells.toArray rfl rfl 37 _ FP0.out (by kernel_rfl) rfl (PV.one _) ?_)
              clear FP0 BN LB GV EW
              generalize V.setRow pb pl.cells.toArray = w8 at *
              have VP : Hid (pl.rd w8 (fun _ => True) 9) := ⟨by rw [PX.out]; exact VX.out, by rw [PY.out]; exact VY.out⟩
              have QP : Hid (pl.q = ⟨fx.val, fy.val⟩) := by show _ = _; unfold PV.q; rw [PX.out, PY.out, QX.out, QY.out]
              have GA := Lib.hid (GA.out.tr GN.out)
              have RA0 := Lib.hid (RA0.out.gr (by decide) GN.out)
              clear VX VY PX PY QX QY GN
              go_wp2_with fail
              go_at_call 26
              refine whole_q lo _ HI.out.1 ?_
              intro rlo w9 hg9 hq9 hr9
              have VL := Lib.hid (hr9.into (T := fun _ => True) fun _ _ => trivial)
              have QL := Lib.hid hq9
              have FP := Lib.hid (grow_blk hg9 FP.out)
              have VP := Lib.hid (VP.out.gr hg9)
              have GA := Lib.hid (GA.out.tr hg9)
              have RA0 := Lib.hid (RA0.out.gr (by decide) hg9)
              clear hg9 hq9 hr9
              go_wp2_with fail
              go_at_call 26
              refine whole_q hi _ HI.out.2 ?_
              intro rhi w10 hg9 hq9 hr9
              have VL := Lib.hid (VL.out.gr hg9)
              have VH := Lib.hid (hr9.into (T := fun _ => True) fun _ _ => trivial)
              have QH := Lib.hid hq9
              have FP := Lib.hid (grow_blk hg9 FP.out)
              have VP := Lib.hid (VP.out.gr hg9)
              have GA := Lib.hid (GA.out.tr hg9)
              have RA0 := Lib.hid (RA0.out.gr (by decide) hg9)
              clear hg9 hq9 hr9
              obtain ⟨⟨a1, a2, a3, a4⟩, ⟨a5, a6, a7, a8⟩, aq⟩ := rlo
              obtain ⟨⟨b1, b2, b3, b4⟩, ⟨b5, b6, b7, b8⟩, bq⟩ := rhi
              unfold RV.cells
              dsimp only at QL QH ⊢
              go_upto_region 13 with fail
              have FL : Hid (((w10.alloc (.cells #[.bool a1, .slice a2 a3 a4, .bool a5, .slice a6 a7 a8] 35)).alloc (.cells #[.bool b1, .slice b2 b3 b4, .bool b5, .slice b6 b7 b8] 35)).heap[w10.heap.size]? = some (.cells (⟨⟨a1, a2, a3, a4⟩, ⟨a5, a6, a7, a8⟩, aq⟩ : RV).cells.toArray 35 (0, 0))) := blk_al w10 _ _ ((Grow.refl _).al _)
              have FH : Hid (((w10.alloc (.cells #[.bool a1, .slice a2 a3 a4, .bool a5, .slice a6 a7 a8] 35)).alloc (.cells #[.bool b1, .slice b2 b3 b4, .bool b5, .slice b6 b7 b8] 35)).heap[w10.heap.size + 1]? = some (.cells (⟨⟨b1, b2, b3, b4⟩, ⟨b5, b6, b7, b8⟩, bq⟩ : RV).cells.toArray 35 (0, 0))) := by
                have := blk_al (w10.alloc (.cells #[.bool a1, .slice a2 a3 a4, .bool a5, .slice a6 a7 a8] 35)) #[.bool b1, .slice b2 b3 b4, .bool b5, .slice b6 b7 b8] 35 (Grow.refl _)
                rwa [World.size_alloc] at this
              have GN : Hid (Grow w10 ((w10.alloc (.cells #[.bool a1, .slice a2 a3 a4, .bool a5, .slice a6 a7 a8] 35)).alloc (.cells #[.bool b1, .slice b2 b3 b4, .bool b5, .slice b6 b7 b8] 35))) := ((Grow.refl _).al _).al _
              generalize (w10.alloc (.cells #[.bool a1, .slice a2 a3 a4, .bool a5, .slice a6 a7 a8] 35)).alloc (.cells #[.bool b1, .slice b2 b3 b4, .bool b5, .slice b6 b7 b8] 35) = w11 at *
              have FP := Lib.hid (grow_blk GN.out FP.out)
              have VP := Lib.hid (VP.out.gr GN.out)
              have VL := Lib.hid (VL.out.gr GN.out)
              have VH := Lib.hid (VH.out.gr GN.out)
              have GA := Lib.hid (GA.out.tr GN.out)
              have RA0 := Lib.hid (RA0.out.gr (by decide) GN.out)
              clear GN
              generalize w10.heap.size = bl at *
              obtain ⟨n1, f1, hW⟩ : ∃ n f, windQ (clip25Q l lo hi) ⟨fx.val, fy.val⟩ = (n, f) := ⟨_, _, rfl⟩
              have HW := Lib.hid hW
              clear hW
              have GD := Lib.hid ((Grow.refl w11).dr)
              have FP := Lib.hid (grow_blk GD.out FP.out)
              have FL := Lib.hid (grow_blk GD.out FL.out)
              have FH := Lib.hid (grow_blk GD.out FH.out)
              have VP := Lib.hid (VP.out.gr GD.out)
              have VL := Lib.hid (VL.out.gr GD.out)
              have VH := Lib.hid (VH.out.gr GD.out)
              have GA := Lib.hid (GA.out.tr GD.out)
              have RA0 := Lib.hid (RA0.out.gr (by decide) GD.out)
              clear GD
              refine wp_region_lexT (Grow w11.drew) ((Grow.refl _)) 8 [0, 2, 1, 3, 4, 5, 6, 7] (by kernel_rfl) (by kernel_rfl) (by intro c a d v w h; cases d <;> exact h) ?_
              generalize w11.drew = w12 at *
              iterate 1 (apply lext_take; exact rfl; exact rfl; (intro W hW; (try clear hW); go_simp; with_reducible rfl); try simp only [Act.put, List.setIfInBounds_toArray, List.set_cons_zero, List.set_cons_succ])
              apply lext_take; exact rfl; exact rfl; (intro W hW; exact exec_load_row 37 _ rfl pb rfl 37 _ _ _ (grow_blk hW FP.out) rfl Try.underlying37 (by kernel_rfl))
              try simp only [Act.put, List.setIfInBounds_toArray, List.set_cons_zero, List.set_cons_succ]
              apply lext_turn; exact rfl; exact rfl; exact rfl; intro K hK; go_simp; go_at_call 28; refine places_any ra _ _ w12 RA0.out (by have := RL; omega) (fun s hs => ⟨rt_ok25 (SI.out s hs).1, (SI.out s hs).1⟩) ?_; intro r13 m13 w13 hO13 hq13 hv13 hg13
              have O13 := Lib.hid (Rd.own_lt hO13)
              have Q13 := Lib.hid hq13
              have V13 := Lib.hid hv13
              have L13 : Hid (m13.length ≤ 5000) := by show _ ≤ _; have := congrArg List.length hq13; rw [List.length_map, List.length_map] at this; omega
              have G13 := Lib.hid hg13
              obtain ⟨A13, c13, rfl⟩ := own_slice hO13
              refine hK.out _ _ G13.out ?_
              clear hK hO13 hq13 hv13 hg13
              try simp only [Act.put, List.setIfInBounds_toArray, List.set_cons_zero, List.set_cons_succ]
              apply lext_turn; exact rfl; exact rfl; exact rfl; intro K hK; go_simp; go_at_call 27; refine winding_any m13 pl 9 _ _ _ _ w13 O13.out L13.out V13.out (VP.out.gr G13.out) (by omega) ?_; intro w14 hg14
              have G14 := Lib.hid (G13.out.tr hg14)
              have E14 : Hid (windQ (m13.map PV.q) pl.q = (n1, f1)) := by show _ = _; rw [Q13.out, RQ.out, QP.out, HW.out]
              rw [E14.out]
              dsimp only
              refine hK.out _ _ G14.out ?_
              clear hK hg14
              try simp only [Act.put, List.setIfInBounds_toArray, List.set_cons_zero, List.set_cons_succ]
              iterate 4 (apply lext_take; exact rfl; exact rfl; (intro W hW; (try clear hW); go_simp; with_reducible rfl); try simp only [Act.put, List.setIfInBounds_toArray, List.set_cons_zero, List.set_cons_succ])
              refine lext_nil ?_
              simp only [List.drop_succ_cons, List.drop_zero]
              have FP := Lib.hid (grow_blk G14.out FP.out)
              have FL := Lib.hid (grow_blk G14.out FL.out)
              have FH := Lib.hid (grow_blk G14.out FH.out)
              have VP := Lib.hid (VP.out.gr G14.out)
              have VL := Lib.hid (VL.out.gr G14.out)
              have VH := Lib.hid (VH.out.gr G14.out)
              have GA := Lib.hid (GA.out.tr G14.out)
              clear G14 G13 O13 Q13 V13 L13 E14 RA0
              have OXL := Lib.hid fun W (h : Grow w14 W) (R : Ending → World → Prop) hR => order_q pl.x (⟨⟨a1, a2, a3, a4⟩, ⟨a5, a6, a7, a8⟩, aq⟩ : RV) 9 4 _ _ W (VP.out.1.gr h) (VL.out.gr h) (by omega) (by omega) (R := R) hR
              have OXH := Lib.hid fun W (h : Grow w14 W) (R : Ending → World → Prop) hR => order_q pl.x (⟨⟨b1, b2, b3, b4⟩, ⟨b5, b6, b7, b8⟩, bq⟩ : RV) 9 4 _ _ W (VP.out.1.gr h) (VH.out.gr h) (by omega) (by omega) (R := R) hR
              have OYL := Lib.hid fun W (h : Grow w14 W) (R : Ending → World → Prop) hR => order_q pl.y (⟨⟨a1, a2, a3, a4⟩, ⟨a5, a6, a7, a8⟩, aq⟩ : RV) 9 4 _ _ W (VP.out.2.gr h) (VL.out.gr h) (by omega) (by omega) (R := R) hR
              have OYH := Lib.hid fun W (h : Grow w14 W) (R : Ending → World → Prop) hR => order_q pl.y (⟨⟨b1, b2, b3, b4⟩, ⟨b5, b6, b7, b8⟩, bq⟩ : RV) 9 4 _ _ W (VP.out.2.gr h) (VH.out.gr h) (by omega) (by omega) (R := R) hR
              have PQ1 : pl.x.q = fx.val := congrArg PtQ.x QP.out
              have PQ2 : pl.y.q = fy.val := congrArg PtQ.y QP.out
              dsimp only at OXL OXH OYL OYH
              rw [PQ1, QL.out] at OXL
              rw [PQ1, QH.out] at OXH
              rw [PQ2, QL.out] at OYL
              rw [PQ2, QH.out] at OYH
              have HOUT : Hid ((cmpR fx.val lo < 0 ∨ 0 < cmpR fx.val hi ∨ cmpR fy.val lo < 0 ∨ 0 < cmpR fy.val hi) → n1 = 0 ∧ f1 = true) := by
                intro h
                rw [cmpR_lt, cmpR_gt, cmpR_lt, cmpR_gt] at h
                have := HW.out
                rw [clip_out h, Prod.mk.injEq] at this
                exact ⟨this.1.symm, this.2.symm⟩
              have HINS : Hid (¬ cmpR fx.val lo < 0 → ¬ 0 < cmpR fx.val hi → ¬ cmpR fy.val lo < 0 → ¬ 0 < cmpR fy.val hi → cmpR fx.val lo ≠ 0 → cmpR fx.val hi ≠ 0 → cmpR fy.val lo ≠ 0 → cmpR fy.val hi ≠ 0 → windQ (l.map Pt.pq) ⟨fx.val, fy.val⟩ = (n1, f1)) := by
                intro h1 h2 h3 h4 h5 h6 h7 h8
                rw [← HW.out]
                symm
                have g1 : 0 < cmpR fx.val lo := by omega
                have g2 : cmpR fx.val hi < 0 := by omega
                have g3 : 0 < cmpR fy.val lo := by omega
                have g4 : cmpR fy.val hi < 0 := by omega
                rw [cmpR_gt] at g1 g3
                rw [cmpR_lt] at g2 g4
                exact clip_wind g1 g2 g3 g4
              clear PQ1 PQ2
              generalize cmpR fx.val lo = m1 at *
              generalize cmpR fx.val hi = m2 at *
              generalize cmpR fy.val lo = m3 at *
              generalize cmpR fy.val hi = m4 at *
              obtain ⟨d1, hd1⟩ : ∃ d, decide (m1 < 0) = d := ⟨_, rfl⟩
              obtain ⟨d2, hd2⟩ : ∃ d, decide (0 < m2) = d := ⟨_, rfl⟩
              obtain ⟨d3, hd3⟩ : ∃ d, decide (m3 < 0) = d := ⟨_, rfl⟩
              obtain ⟨d4, hd4⟩ : ∃ d, decide (0 < m4) = d := ⟨_, rfl⟩
              have HOUT : Hid ((d1 = true ∨ d2 = true ∨ d3 = true ∨ d4 = true) → n1 = 0 ∧ f1 = true) := by
                intro h
                rw [← hd1, ← hd2, ← hd3, ← hd4, decide_eq_true_eq, decide_eq_true_eq, decide_eq_true_eq, decide_eq_true_eq] at h
                exact HOUT.out h
              obtain ⟨e1, he1⟩ : ∃ d, (m1 == 0) = d := ⟨_, rfl⟩
              obtain ⟨e2, he2⟩ : ∃ d, (m2 == 0) = d := ⟨_, rfl⟩
              obtain ⟨e3, he3⟩ : ∃ d, (m3 == 0) = d := ⟨_, rfl⟩
              obtain ⟨e4, he4⟩ : ∃ d, (m4 == 0) = d := ⟨_, rfl⟩
              have HINS : Hid (d1 = false → d2 = false → d3 = false → d4 = false → e1 = false → e2 = false → e3 = false → e4 = false → windQ (l.map Pt.pq) ⟨fx.val, fy.val⟩ = (n1, f1)) := by
                intro h1 h2 h3 h4 h5 h6 h7 h8
                rw [← hd1, decide_eq_false_iff_not] at h1
                rw [← hd2, decide_eq_false_iff_not] at h2
                rw [← hd3, decide_eq_false_iff_not] at h3
                rw [← hd4, decide_eq_false_iff_not] at h4
                rw [← he1, beq_eq_false_iff_ne] at h5
                rw [← he2, beq_eq_false_iff_ne] at h6
                rw [← he3, beq_eq_false_iff_ne] at h7
                rw [← he4, beq_eq_false_iff_ne] at h8
                exact HINS.out h1 h2 h3 h4 h5 h6 h7 h8
              have GG : Hid (Grow w14 w14) := Grow.refl _
              obtain ⟨z0, z1, z2, z3, z4, z5, z6, z7⟩ := PV.at_ FP.out
              obtain ⟨x0, x1, x2, x3⟩ := RV.at_ FL.out
              obtain ⟨y0, y1, y2, y3⟩ := RV.at_ FH.out
              go_wp2_with fail
              go_at_call 29
              refine OXL.out _ GG.out _ ?_
              intro w15 hg15
              have FP := Lib.hid (grow_blk hg15 FP.out)
              have FL := Lib.hid (grow_blk hg15 FL.out)
              have FH := Lib.hid (grow_blk hg15 FH.out)
              have GA := Lib.hid (GA.out.tr hg15)
              have GG := Lib.hid (GG.out.tr hg15)
              clear hg15 z0 z1 z2 z3 z4 z5 z6 z7 x0 x1 x2 x3 y0 y1 y2 y3
              cases d1 with
              | true =>
                obtain ⟨rfl, rfl⟩ := HOUT.out (by simp)
                clear HOUT HINS
                go_wp2_with fail
                go_at_call 17
                refine live25_any _ ?_
                intro w9 hg9
                have G9 := Lib.hid (GA.out.tr hg9)
                clear hg9
                go_wp2
                exact HR.out _ G9.out
              | false =>
                obtain ⟨z0, z1, z2, z3, z4, z5, z6, z7⟩ := PV.at_ FP.out
                obtain ⟨x0, x1, x2, x3⟩ := RV.at_ FL.out
                obtain ⟨y0, y1, y2, y3⟩ := RV.at_ FH.out
                go_wp2_with fail
                go_at_call 29
                refine OXH.out _ GG.out _ ?_
                intro w15 hg15
                have FP := Lib.hid (grow_blk hg15 FP.out)
                have FL := Lib.hid (grow_blk hg15 FL.out)
                have FH := Lib.hid (grow_blk hg15 FH.out)
                have GA := Lib.hid (GA.out.tr hg15)
                have GG := Lib.hid (GG.out.tr hg15)
                clear hg15 z0 z1 z2 z3 z4 z5 z6 z7 x0 x1 x2 x3 y0 y1 y2 y3
                cases d2 with
                | true =>
                  obtain ⟨rfl, rfl⟩ := HOUT.out (by simp)
                  clear HOUT HINS
                  go_wp2_with fail
                  go_at_call 17
                  refine live25_any _ ?_
                  intro w9 hg9
                  have G9 := Lib.hid (GA.out.tr hg9)
                  clear hg9
                  go_wp2
                  exact HR.out _ G9.out
                | false =>
                  obtain ⟨z0, z1, z2, z3, z4, z5, z6, z7⟩ := PV.at_ FP.out
                  obtain ⟨x0, x1, x2, x3⟩ := RV.at_ FL.out
                  obtain ⟨y0, y1, y2, y3⟩ := RV.at_ FH.out
                  go_wp2_with fail
                  go_at_call 29
                  refine OYL.out _ GG.out _ ?_
                  intro w15 hg15
                  have FP := Lib.hid (grow_blk hg15 FP.out)
                  have FL := Lib.hid (grow_blk hg15 FL.out)
                  have FH := Lib.hid (grow_blk hg15 FH.out)
                  have GA := Lib.hid (GA.out.tr hg15)
                  have GG := Lib.hid (GG.out.tr hg15)
                  clear hg15 z0 z1 z2 z3 z4 z5 z6 z7 x0 x1 x2 x3 y0 y1 y2 y3
                  cases d3 with
                  | true =>
                    obtain ⟨rfl, rfl⟩ := HOUT.out (by simp)
                    clear HOUT HINS
                    go_wp2_with fail
                    go_at_call 17
                    refine live25_any _ ?_
                    intro w9 hg9
                    have G9 := Lib.hid (GA.out.tr hg9)
                    clear hg9
                    go_wp2
                    exact HR.out _ G9.out
                  | false =>
                    obtain ⟨z0, z1, z2, z3, z4, z5, z6, z7⟩ := PV.at_ FP.out
                    obtain ⟨x0, x1, x2, x3⟩ := RV.at_ FL.out
                    obtain ⟨y0, y1, y2, y3⟩ := RV.at_ FH.out
                    go_wp2_with fail
                    go_at_call 29
                    refine OYH.out _ GG.out _ ?_
                    intro w15 hg15
                    have FP := Lib.hid (grow_blk hg15 FP.out)
                    have FL := Lib.hid (grow_blk hg15 FL.out)
                    have FH := Lib.hid (grow_blk hg15 FH.out)
                    have GA := Lib.hid (GA.out.tr hg15)
                    have GG := Lib.hid (GG.out.tr hg15)
                    clear hg15 z0 z1 z2 z3 z4 z5 z6 z7 x0 x1 x2 x3 y0 y1 y2 y3
                    cases d4 with
                    | true =>
                      obtain ⟨rfl, rfl⟩ := HOUT.out (by simp)
                      clear HOUT HINS
                      go_wp2_with fail
                      go_at_call 17
                      refine live25_any _ ?_
                      intro w9 hg9
                      have G9 := Lib.hid (GA.out.tr hg9)
                      clear hg9
                      go_wp2
                      exact HR.out _ G9.out
                    | false =>
                      obtain ⟨z0, z1, z2, z3, z4, z5, z6, z7⟩ := PV.at_ FP.out
                      obtain ⟨x0, x1, x2, x3⟩ := RV.at_ FL.out
                      obtain ⟨y0, y1, y2, y3⟩ := RV.at_ FH.out
                      go_wp2_with fail
                      go_at_call 29
                      refine OXL.out _ GG.out _ ?_
                      intro w15 hg15
                      have FP := Lib.hid (grow_blk hg15 FP.out)
                      have FL := Lib.hid (grow_blk hg15 FL.out)
                      have FH := Lib.hid (grow_blk hg15 FH.out)
                      have GA := Lib.hid (GA.out.tr hg15)
                      have GG := Lib.hid (GG.out.tr hg15)
                      clear hg15 z0 z1 z2 z3 z4 z5 z6 z7 x0 x1 x2 x3 y0 y1 y2 y3
                      cases e1 with
                      | true =>
                        clear HOUT HINS
                        go_wp2_with fail
                        go_at_call 17
                        refine live25_any _ ?_
                        intro w9 hg9
                        have G9 := Lib.hid (GA.out.tr hg9)
                        clear hg9
                        go_wp2
                        exact HR.out _ G9.out
                      | false =>
                        obtain ⟨z0, z1, z2, z3, z4, z5, z6, z7⟩ := PV.at_ FP.out
                        obtain ⟨x0, x1, x2, x3⟩ := RV.at_ FL.out
                        obtain ⟨y0, y1, y2, y3⟩ := RV.at_ FH.out
                        go_wp2_with fail
                        go_at_call 29
                        refine OXH.out _ GG.out _ ?_
                        intro w15 hg15
                        have FP := Lib.hid (grow_blk hg15 FP.out)
                        have FL := Lib.hid (grow_blk hg15 FL.out)
                        have FH := Lib.hid (grow_blk hg15 FH.out)
                        have GA := Lib.hid (GA.out.tr hg15)
                        have GG := Lib.hid (GG.out.tr hg15)
                        clear hg15 z0 z1 z2 z3 z4 z5 z6 z7 x0 x1 x2 x3 y0 y1 y2 y3
                        cases e2 with
                        | true =>
                          clear HOUT HINS
                          go_wp2_with fail
                          go_at_call 17
                          refine live25_any _ ?_
                          intro w9 hg9
                          have G9 := Lib.hid (GA.out.tr hg9)
                          clear hg9
                          go_wp2
                          exact HR.out _ G9.out
                        | false =>
                          obtain ⟨z0, z1, z2, z3, z4, z5, z6, z7⟩ := PV.at_ FP.out
                          obtain ⟨x0, x1, x2, x3⟩ := RV.at_ FL.out
                          obtain ⟨y0, y1, y2, y3⟩ := RV.at_ FH.out
                          go_wp2_with fail
                          go_at_call 29
                          refine OYL.out _ GG.out _ ?_
                          intro w15 hg15
                          have FP := Lib.hid (grow_blk hg15 FP.out)
                          have FL := Lib.hid (grow_blk hg15 FL.out)
                          have FH := Lib.hid (grow_blk hg15 FH.out)
                          have GA := Lib.hid (GA.out.tr hg15)
                          have GG := Lib.hid (GG.out.tr hg15)
                          clear hg15 z0 z1 z2 z3 z4 z5 z6 z7 x0 x1 x2 x3 y0 y1 y2 y3
                          cases e3 with
                          | true =>
                            clear HOUT HINS
                            go_wp2_with fail
                            go_at_call 17
                            refine live25_any _ ?_
                            intro w9 hg9
                            have G9 := Lib.hid (GA.out.tr hg9)
                            clear hg9
                            go_wp2
                            exact HR.out _ G9.out
                          | false =>
                            obtain ⟨z0, z1, z2, z3, z4, z5, z6, z7⟩ := PV.at_ FP.out
                            obtain ⟨x0, x1, x2, x3⟩ := RV.at_ FL.out
                            obtain ⟨y0, y1, y2, y3⟩ := RV.at_ FH.out
                            go_wp2_with fail
                            go_at_call 29
                            refine OYH.out _ GG.out _ ?_
                            intro w15 hg15
                            have FP := Lib.hid (grow_blk hg15 FP.out)
                            have FL := Lib.hid (grow_blk hg15 FL.out)
                            have FH := Lib.hid (grow_blk hg15 FH.out)
                            have GA := Lib.hid (GA.out.tr hg15)
                            have GG := Lib.hid (GG.out.tr hg15)
                            clear hg15 z0 z1 z2 z3 z4 z5 z6 z7 x0 x1 x2 x3 y0 y1 y2 y3
                            cases e4 with
                            | true =>
                              clear HOUT HINS
                              go_wp2_with fail
                              go_at_call 17
                              refine live25_any _ ?_
                              intro w9 hg9
                              have G9 := Lib.hid (GA.out.tr hg9)
                              clear hg9
                              go_wp2
                              exact HR.out _ G9.out
                            | false =>
                              have EW : Hid (windQ (l.map Pt.pq) ⟨fx.val, fy.val⟩ = (n1, f1)) := by first | exact HINS.out rfl rfl rfl rfl rfl rfl rfl rfl | exact HINS.out trivial trivial trivial trivial trivial trivial trivial trivial | exact HINS.out (by simp) (by simp) (by simp) (by simp) (by simp) (by simp) (by simp) (by simp)
                              clear HOUT HINS OXL OXH OYL OYH FL FH
                              have VP := Lib.hid (VP.out.gr GG.out)
                              clear GG VL VH
                              go_wp2
                              clear hd1 hd2 hd3 hd4 he1 he2 he3 he4
                              generalize w15 = w16 at *
                              go_loopw [20, 19] (fun i p wr => ∃ (k : Nat) (m : List PV), k ≤ l.length ∧ i = .int .i64 k ∧ Hid (m.map PV.q = (l.take k).map Pt.pq) ∧ Hid (HSt w16 p (.slice none 0 0) m [] 9 wr)) (fun i _ _ => l.length - (intOf i).toNat)
                              case atStart => exact ⟨0, [], Nat.zero_le _, rfl, rfl, ⟨Grow.refl _, World.ownsRow_nil _ _ _ _, World.ownsRow_nil _ _ _ _, fun k hk => by simp [Value.ownBlock] at hk, fun p hp => by simp at hp, fun p hp => by simp at hp⟩⟩
                              case round =>
                                obtain ⟨k, m, hk, rfl, hm, hst⟩ := hrel
                                obtain ⟨ap, cp, rfl⟩ := own_slice hst.out.oo
                                by_cases hlt : k < l.length
                                · obtain ⟨bp, o, rfl, hS, hc⟩ := k4 (by omega)
                                  have e0 := fun W (h : Grow w W) => flat_cells Pt.cells_len h hS hc hlt
                                  have ML : Hid (m.length ≤ 100) := by show _ ≤ _; have := congrArg List.length hm.out; rw [List.length_map, List.length_map, List.length_take] at this; omega
                                  have MS : Hid (∀ r : PV, r.q = (l[k]'hlt).pq → (m ++ [r]).map PV.q = (l.take (k + 1)).map Pt.pq) := fun r hr => by rw [List.map_append, hm.out, List.take_succ_eq_append_getElem hlt, List.map_append, List.map_cons, List.map_nil, hr]; rfl
                                  have PO := HOK.out _ (List.getElem_mem hlt)
                                  have AT := Lib.hid fun W (R : Ending → World → Prop) hR => at24_any (l[k]'hlt) W PO (R := R) hR
                                  have x0 := e0 wr (GA.out.tr hst.out.gr) 0 _ rfl
                                  have x1 := e0 wr (GA.out.tr hst.out.gr) 1 _ rfl
                                  simp only [Nat.add_zero] at x0
                                  have ST := Lib.hid hst.out
                                  clear e0 hc k4 PO hm hst
                                  generalize (l[k]'hlt) = p at *
                                  unfold Pt.cells at AT
                                  go_wp2_with fail
                                  go_at_call 30
                                  refine AT.out _ _ ?_
                                  intro r w17 hg1 hq hr
                                  have lr : r.cells.length = 8 := rfl
                                  have RX := Lib.hid ((hr.into (T := OffB (.slice ap m.length cp) (.slice none 0 0)) fun b hb => ST.out.off hb).up (k' := 9) (by omega))
                                  have ST := Lib.hid (ST.out.tr hg1)
                                  have MQ := Lib.hid (MS.out r hq)
                                  clear hg1 hq hr x0 x1 AT MS
                                  go_upto_region 21 with (at_builtin; refine wpList_newAt rfl _ _ rfl el_pl (own_grow ST.out.oo (Grow.refl _)) rfl 1 _ rfl _ rfl (by decide) rfl (by simp [PV.cells, Value.oneCell']) (by have := ML.out; omega) ST.out.gr ⟨Nat.le_refl _, ST.out.gr.size⟩ ?_; intro v9 w9 hO9 hg9 hgr9 hb9)
                                  simp only [fold_cells] at hO9
                                  have STF := Lib.hid (ST.out.pout (out' := m ++ [r]) hgr9 (own_eq hO9 (by simp) (by simp [PVs])) (hb9.elim .inl fun h => .inr ⟨_, h, Nat.le_succ _⟩) (fun y hy => by
                                    rcases List.mem_append.1 hy with h | h
                                    · exact ST.out.vo y h
                                    · rw [List.mem_singleton.1 h]; exact RX.out))
                                  clear hO9 hg9 hgr9 hb9 ST RX
                                  go_wp2
                                  go_roundw
                                  case rel => exact ⟨k + 1, m ++ [r], by omega, by go_num, MQ.out, STF.out⟩
                                  case measure => simp [intOf]; omega
                                · obtain rfl : k = l.length := by omega
                                  have M0 : Hid (m.map PV.q = l.map Pt.pq) := by show _ = _; rw [hm.out, List.take_length]
                                  have L0 : Hid (m.length ≤ 100) := by show _ ≤ _; have := congrArg List.length M0.out; rw [List.length_map, List.length_map] at this; omega
                                  have ST := Lib.hid hst.out
                                  have VP := Lib.hid (VP.out.gr ST.out.gr)
                                  have FP := Lib.hid (grow_blk ST.out.gr FP.out)
                                  have GA := Lib.hid (GA.out.tr ST.out.gr)
                                  clear hm hst k4
                                  go_wp2_with (refine wpList_load_row rfl 37 _ rfl pb rfl 37 _ _ _ FP.out Try.underlying37 rfl (by kernel_rfl) ?_)
                                  go_at_call 27
                                  refine winding_any m pl 9 _ _ _ _ _ (Rd.own_lt ST.out.oo) (by have := L0.out; omega) (fun p hp => (ST.out.vo p hp).into (T := fun _ => True) fun _ _ => trivial) VP.out (by omega) ?_
                                  intro w18 hg18
                                  have E18 : Hid (windQ (m.map PV.q) pl.q = (n1, f1)) := by show _ = _; rw [M0.out, QP.out, EW.out]
                                  rw [E18.out]
                                  dsimp only
                                  have GA := Lib.hid (GA.out.tr hg18)
                                  clear hg18 ST VP FP E18
                                  have n2 : (n1 == n1) = true := by simp
                                  cases f1 with
                                  | false =>
                                    go_wp2_with fail
                                    go_at_call 17
                                    refine live25_any _ ?_
                                    intro w9 hg9
                                    have G9 := Lib.hid (GA.out.tr hg9)
                                    clear hg9
                                    go_wp2
                                    exact HR.out _ G9.out
                                  | true =>
                                    go_wp2_with fail
                                    go_at_call 17
                                    refine live25_any _ ?_
                                    intro w9 hg9
                                    have G9 := Lib.hid (GA.out.tr hg9)
                                    clear hg9
                                    go_wp2
                                    exact HR.out _ G9.out
    · have t2 : (lineE l lo hi != 0) = true := by rw [bne_iff_ne]; exact he
      generalize lineE l lo hi = e at *
      clear he k4
      go_enter Try.func5, Try.ntmps5
      go_upto_region 1 with fail
      rw [← hwa]
      clear hwa
      go_wp2_with fail
      go_at_call 19
      refine RE.out _ GA.out _ ?_
      intro w1 hg1
      have GA := Lib.hid (GA.out.tr hg1)
      clear hg1
      go_wp2_with fail
      go_at_call 17
      refine live25_any _ ?_
      intro w9 hg9
      have G9 := Lib.hid (GA.out.tr hg9)
      clear hg9
      go_wp2
      exact HR.out _ G9.out
end Go.Proofs.Ytjcgkhcbdbbdkaa
