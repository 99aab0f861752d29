/-
  RingStarts, walked.
-/
import Derived.Test.YtjcgkhcbdbbdkaaChecked
import Derived.Test.YtjcgkhcbdbbdkaaRngE
import Derived.Test.YtjcgkhcbdbbdkaaRngP
namespace Go.Proofs.Ytjcgkhcbdbbdkaa
open Go.RowKit B

theorem Rd.subP {w : World} {S : Nat → Prop} {b o c : Nat} {l : List Pt} (h : Rd w S 2 (.slice (some ⟨b, o, none⟩) l.length c) l.length (Pts l)) (i m c' : Nat) (hm : i + m ≤ l.length) (hc' : m ≤ c' ∧ c' ≤ c) :
    Rd w S 2 (.slice (some ⟨b, o + i * 2, none⟩) m c') m (Pts ((l.drop i).take m)) := by
  obtain ⟨_, A', d, hv, h1, h2, h3, h4⟩ := h
  injection hv with e1 _ e2
  subst e1 e2
  have hlen : ((l.drop i).take m).length = m := by simp; omega
  refine ⟨by rw [Pts_len, hlen], _, _, rfl, hc'.1, by omega, (fun h => by cases h), fun hn => ?_⟩
  obtain ⟨b', o', hb, hS, hc⟩ := h4 (by omega)
  injection hb with hb
  injection hb with hb1 hb2
  subst hb1 hb2
  refine ⟨b, o + i * 2, rfl, hS, fun j u hu => ?_⟩
  have hj : j < m * 2 := by
    have := (List.getElem?_eq_some_iff.1 hu).1
    rw [Pts_len, hlen] at this; exact this
  have := hc (i * 2 + j) u (by
    have e2 : Pts l = Pts (l.take i) ++ (Pts ((l.drop i).take m) ++ Pts ((l.drop i).drop m)) := by rw [← Pts_app, List.take_append_drop, ← Pts_app, List.take_append_drop]
    have hti : (Pts (l.take i)).length = i * 2 := by rw [Pts_len, List.length_take]; omega
    rw [e2, List.getElem?_append_right (by omega), hti, Nat.add_sub_cancel_left, List.getElem?_append_left (by rw [Pts_len, hlen]; exact hj)]
    exact hu)
  rw [show o + i * 2 + j = o + (i * 2 + j) by omega]
  exact this
theorem own_empty (w : World) (e : TypeId) (size : Nat) : (w.alloc (.cells #[] e)).ownsRow w.heap.size e size (.slice (some ⟨w.heap.size, 0, none⟩) 0 0) 0 [] :=
  ⟨by simp, .inr ⟨w.heap.size, 0, #[], rfl, Nat.le_refl _, heap_alloc_new w _, Nat.le_refl _, Nat.zero_le _, by simp, by simp⟩⟩
theorem ring_rot_len {a b : List Spot} (h : IsRot a b) : a.length = b.length := by
  obtain ⟨u, v, rfl, rfl⟩ := h
  simp [Nat.add_comm]
set_option maxRecDepth 100000 in
set_option maxHeartbeats 2000000 in
theorem ringStarts_walk (l : List Pt) (lo hi : Int) (f : Nat) (a : Value) (S : Nat → Prop) (w : World) (hl : Rd w S 2 a l.length (Pts l)) (hlk : ∀ q ∈ l, q.ok) (hlo : I64 lo) (hhi : I64 hi) (hf : f < 256)
    {R : Ending → World → Prop} (hR : ∀ w', Grow w w' → R (.returned (.bool true)) w') :
    Calls Try.prog 6 #[a, .int .i64 lo, .int .i64 hi, .int .u8 f] w R := by
  have HR := Lib.hid hR
  clear hR
  have hl := hl.lt (by decide)
  have HL := Lib.hid hl
  obtain ⟨_, A, c, rfl, k1, k2, k3, k4⟩ := hl
  unfold maxLen at k2
  have G0 := Lib.hid (Grow.refl w)
  by_cases hl1 : 30 < l.length
  · have t1 : decide ((30 : Int) < (l.length : Int)) = true := by rw [decide_eq_true_eq]; omega
    clear k4
    go_enter Try.func6, Try.ntmps6
    go_wp2_with fail
    go_at_call 17
    refine live25_any _ ?_
    intro w9 hg9
    have G9 := Lib.hid (G0.out.tr hg9)
    clear hg9
    go_wp2
    exact HR.out _ G9.out
  · have t1 : decide ((30 : Int) < (l.length : Int)) = false := by rw [decide_eq_false_iff_not]; omega
    by_cases h0 : l.length = 0
    · have t2 : ((l.length : Int) == 0) = true := by rw [beq_iff_eq]; omega
      clear k4
      go_enter Try.func6, Try.ntmps6
      go_wp2_with fail
      go_at_call 17
      refine live25_any _ ?_
      intro w9 hg9
      have G9 := Lib.hid (G0.out.tr hg9)
      clear hg9
      go_wp2
      exact HR.out _ G9.out
    · have t2 : ((l.length : Int) == 0) = false := by rw [beq_eq_false_iff_ne]; omega
      have RE := Lib.hid fun W (h : Grow w W) (R : Ending → World → Prop) hR => rlineE_any l lo hi _ _ W (HL.out.gr (by decide) h) (R := R) hR
      by_cases he : lineE l lo hi = 0
      · rw [he] at RE
        obtain ⟨b, o, rfl, hS, hc⟩ := k4 (by omega)
        have KF : Hid (f % l.length < l.length) := Nat.mod_lt _ (by omega)
        have PL := Lib.hid (show 0 < l.length by omega)
        obtain ⟨u, v, huv, hk⟩ : ∃ u v, l = u ++ v ∧ u.length = f % l.length := ⟨l.take (f % l.length), l.drop (f % l.length), (List.take_append_drop _ _).symm, by rw [List.length_take]; have := KF.out; omega⟩
        have RT : IsRot (ringS l lo hi) (ringS (v ++ u) lo hi) := ring_rot lo hi ⟨u, v, huv, rfl⟩
        have hle : lineE (v ++ u) lo hi = 0 := by rw [lineE_rot, ← huv]; exact he
        have okv : ∀ q ∈ v ++ u, q.ok := fun q hq => hlk q (by rw [huv]; rcases List.mem_append.1 hq with h | h <;> simp [h])
        have lvu : (v ++ u).length = l.length := by rw [huv]; simp [Nat.add_comm]
        have CA := Lib.hid fun W (h : Grow w W) (R : Ending → World → Prop) hR => clip25_any l lo hi _ _ W (HL.out.gr (by decide) h) (by omega) hlk hlo hhi (R := R) hR
        have CB := Lib.hid fun W v' S (h : Rd W S 2 v' (v ++ u).length (Pts (v ++ u))) (R : Ending → World → Prop) hR => clip25_any (v ++ u) lo hi v' S W h (by omega) okv hlo hhi (R := R) hR
        have r1 : ringR l lo hi = ringS l lo hi := by unfold ringR; rw [if_pos he]
        have r2 : ringR (v ++ u) lo hi = ringS (v ++ u) lo hi := by unfold ringR; rw [if_pos hle]
        rw [he, r1] at CA
        rw [hle, r2] at CB
        have RLB : Hid ((ringS l lo hi).length ≤ 1000) := by show _ ≤ _; have := (ringTo_ok hlo hhi hlk 4 (by decide)).2; unfold ringS; rw [List.length_map]; omega
        generalize ringS l lo hi = ra at *
        generalize ringS (v ++ u) lo hi = rb at *
        have RL := Lib.hid (ring_rot_len RT)
        have HRT := Lib.hid RT
        have LV : Hid (v.length = l.length - f % l.length) := by show _ = _; have := KF.out; rw [← hk, huv]; simp
        have SB1 : Hid (∀ W, Grow w W → Rd W (· < w.heap.size) 2 (.slice (some ⟨b, o + (f % l.length) * 2, none⟩) (l.length - f % l.length) (c - f % l.length)) (l.length - f % l.length) (Pts v)) := fun W h => by
          have := (HL.out.gr (by decide) h).subP (f % l.length) (l.length - f % l.length) (c - f % l.length) (by have := KF.out; omega) (by omega)
          rwa [show (l.drop (f % l.length)).take (l.length - f % l.length) = v by rw [← hk, huv]; simp] at this
        have SB2 : Hid (∀ W, Grow w W → Rd W (· < w.heap.size) 2 (.slice (some ⟨b, o, none⟩) (f % l.length) c) (f % l.length) (Pts u)) := fun W h => by
          have := (HL.out.gr (by decide) h).subP 0 (f % l.length) c (by have := KF.out; omega) (by have := KF.out; omega)
          rwa [show (l.drop 0).take (f % l.length) = u by rw [← hk, huv]; simp, Nat.zero_mul, Nat.add_zero] at this
        have z4 : ((f : Int)).tmod (l.length : Int) = ((f % l.length : Nat) : Int) := by
          rw [Int.tmod_eq_emod_of_nonneg (by omega)]; exact (Int.natCast_emod f l.length).symm
        have z5 : (f : Int) % (l.length : Int) = ((f % l.length : Nat) : Int) := (Int.natCast_emod f l.length).symm
        have z2 : ¬ (l.length : Int) = 0 := by omega
        have z3 : ¬ l = [] := by rintro rfl; simp at h0
        have hkl := KF.out
        have HVU := Lib.hid (And.intro hk lvu)
        clear hc k3 RT hle okv lvu r1 r2 he hlk hk huv
        generalize f % l.length = k at *
        go_enter Try.func6, Try.ntmps6
        go_wp2_with fail
        clear t1
        go_at_call 19
        refine RE.out _ G0.out _ ?_
        intro w1 hg1
        have G1 := Lib.hid hg1
        clear hg1 RE
        go_wp2_with fail
        clear t2
        have kc : k ≤ c := by omega
        have kl : k ≤ l.length := by omega
        have kne : ¬ c = k := by omega
        have GD := Lib.hid ((Grow.refl w1).dr)
        refine wp_region_lexT (Grow w1) (GD.out) 8 [1, 2, 3, 5, 6, 7, 0, 4] (by kernel_rfl) (by kernel_rfl) (by intro c a d v w h; cases d <;> exact h) ?_
        iterate 6 (apply lext_take; exact rfl; exact rfl; (intro W hW; (try clear hW); go_simp; with_reducible rfl); try simp only [Act.put, List.setIfInBounds_toArray, List.set_cons_zero, List.set_cons_succ])
        apply lext_turn; exact rfl; exact rfl; exact rfl; intro K hK; go_simp; refine hK.out _ _ (GD.out.al _) ?_; clear hK; try simp only [Act.put, List.setIfInBounds_toArray, List.set_cons_zero, List.set_cons_succ]
        have HE0 := Lib.hid (own_grow (own_empty w1 23 2) (Grow.refl _).dr)
        have GD := Lib.hid (((Grow.refl w1).al (.cells #[] 23)).dr)
        generalize (w1.alloc (.cells #[] 23)).drew = w2 at *
        apply lext_turn; exact rfl; exact rfl; exact rfl; intro K hK; refine oper_app _ _ rfl el_pt HE0.out rfl (SB1.out _ (G1.out.tr GD.out)) rfl (Pts_one _) (by omega) GD.out.size ?_; intro v3 w3 hO3 hgr3 hb3
        have G3 := Lib.hid (grow_app GD.out hgr3 (own_ge HE0.out))
        have HO3 := Lib.hid hO3
        refine hK.out _ _ G3.out ?_
        clear hK hO3 hgr3 hb3 HE0
        try simp only [Act.put, List.setIfInBounds_toArray, List.set_cons_zero, List.set_cons_succ]
        refine lext_nil ?_
        simp only [List.drop_succ_cons, List.drop_zero]
        go_wp2_with (at_builtin; refine wpList_app rfl _ _ rfl el_pt HO3.out rfl (SB2.out _ (G1.out.tr G3.out)) rfl (Pts_one _) (by omega) G3.out.size ?_; intro v4 w4 hO4 hgr4 hb4; have G4 := Lib.hid (grow_app G3.out hgr4 (own_ge HO3.out)); have HO4 := Lib.hid hO4; clear hO4 hgr4 hb4)
        have G4 := Lib.hid (G1.out.tr G4.out)
        have HO4 := Lib.hid (own_eq HO4.out (show 0 + (l.length - k) + k = (v ++ u).length by rw [HVU.out.2]; omega) (show [] ++ Pts v ++ Pts u = Pts (v ++ u) by rw [Pts_app]; rfl))
        clear SB1 SB2 G3 GD HO3 kc kl kne z4 z5
        go_at_call 18
        refine CA.out _ G4.out _ ?_
        intro r5 w5 hO5 hg5
        have HO5 := Lib.hid hO5
        have HO4 := Lib.hid (Rd.own (own_grow HO4.out hg5))
        have G5 := Lib.hid (G4.out.tr hg5)
        clear hO5 hg5 CA
        go_wp2_with fail
        go_at_call 18
        refine CB.out _ _ _ HO4.out _ ?_
        intro r6 w6 hO6 hg6
        have RA := Lib.hid (Rd.own_lt (own_grow HO5.out hg6))
        have RB := Lib.hid (Rd.own_lt hO6)
        have G6 := Lib.hid (G5.out.tr hg6)
        obtain ⟨A5, c5, rfl⟩ := own_slice HO5.out
        obtain ⟨A6, c6, rfl⟩ := own_slice hO6
        clear hO6 hg6 CB HO5 HO4 G5 HVU LV KF PL HL
        rw [← RL.out]
        rw [← RL.out] at RB
        obtain ⟨i0, hi0⟩ : ∃ i0 : Nat, ra.length = 0 ∨ (i0 < ra.length ∧ ∀ m (hm : m < rb.length), ra[(i0 + m) % ra.length]? = some (rb[m])) := by
          by_cases h : ra = []
          · exact ⟨0, .inl (by rw [h]; rfl)⟩
          · obtain ⟨i, h1, h2⟩ := rot_at HRT.out h
            exact ⟨i, .inr ⟨h1, h2⟩⟩
        have RO := Lib.hid hi0
        obtain ⟨_, A', c', hv, -, p2, -, p4⟩ := RA.out
        injection hv with e1 e2 e3
        clear e2
        subst e1 e3
        obtain ⟨_, A', c', hv, -, p2', -, q4⟩ := RB.out
        injection hv with e1 e2 e3
        clear e2
        subst e1 e3
        have p2 := RLB.out
        clear hi0 p2' RA RB HRT
        obtain ⟨q0, hq0⟩ : ∃ q, ((ra.length : Int) == 0) = q := ⟨_, rfl⟩
        have Q0 : Hid (q0 = true ∨ (0 ≤ i0 ∧ i0 < ra.length)) := by
          show _ ∨ _
          rcases RO.out with h | h
          · left; rw [← hq0, beq_iff_eq]; omega
          · right; exact ⟨Nat.zero_le _, h.1⟩
        go_wp2_with fail
        go_at_call 20
        refine code25_any _ _ ?_
        go_wp2_with fail
        go_at_call 20
        refine code25_any _ _ ?_
        go_wp2
        clear hq0
        go_loopw [16, 15] (fun i s wr => ∃ (j : Nat) (sb : Bool), j ≤ ra.length ∧ i = .int .i64 j ∧ s = .bool sb ∧ Hid (sb = true ∨ (j ≤ i0 ∧ i0 < ra.length)) ∧ Hid (Grow w6 wr)) (fun i _ _ => ra.length - (intOf i).toNat)
        case atStart => exact ⟨0, q0, Nat.zero_le _, rfl, rfl, Q0.out, Grow.refl _⟩
        case round =>
          obtain ⟨j, sb, hj, rfl, rfl, hsb, hg⟩ := hrel
          by_cases hlt : j < ra.length
          · cases sb with
            | true =>
              have G7 := Lib.hid (G6.out.tr hg.out)
              clear p4 q4
              go_wp2_with fail
              go_at_call 17
              refine live25_any _ ?_
              intro w9 hg9
              have G9 := Lib.hid (G7.out.tr hg9)
              clear hg9
              go_wp2
              exact HR.out _ G9.out
            | false =>
              have HJ : Hid (j ≤ i0 ∧ i0 < ra.length) := by
                show _ ∧ _
                rcases hsb.out with h | h
                · cases h
                · exact h
              clear hsb
              generalize wr = w7 at *
              go_wp2
              go_loopw [17, 15] (fun i s wr => ∃ (m : Nat) (sc : Bool), m ≤ ra.length ∧ i = .int .i64 m ∧ s = .bool sc ∧ Hid (j = i0 → sc = true) ∧ Hid (Grow w6 wr)) (fun i _ _ => ra.length - (intOf i).toNat)
              case atStart => exact ⟨0, true, Nat.zero_le _, rfl, rfl, fun _ => rfl, hg.out⟩
              case round =>
                obtain ⟨m, sc, hm, rfl, rfl, hsc, hg2⟩ := hrel
                by_cases hmt : m < ra.length
                · cases sc with
                  | false =>
                    have HN : Hid (j + 1 ≤ i0 ∧ i0 < ra.length) := ⟨by have := HJ.out; have h : j ≠ i0 := fun e => (by cases (hsc.out e)); omega, HJ.out.2⟩
                    clear p4 q4
                    go_wp2
                    go_roundw
                    case rel => exact ⟨j + 1, _, by omega, by go_num, rfl, (.inr HN.out), hg2.out⟩
                    case measure => simp [intOf]; omega
                  | true =>
                    obtain ⟨b5, o5, rfl, hS5, hc5⟩ := p4 (by omega)
                    obtain ⟨b6, o6, rfl, hS6, hc6⟩ := q4 (by omega)
                    have hjm : (j + m) % ra.length < ra.length := Nat.mod_lt _ (by omega)
                    have hmb : m < rb.length := by rw [← RL.out]; exact hmt
                    have e0 := fun W (h : Grow w6 W) => flat_cells Spot.cells_len h hS5 hc5 hjm
                    have e1 := fun W (h : Grow w6 W) => flat_cells Spot.cells_len h hS6 hc6 hmb
                    have EQ : Hid (j = i0 → ra[(j + m) % ra.length] = rb[m]) := fun e => by
                      subst e
                      rcases RO.out with h | h
                      · omega
                      · have := h.2 m hmb
                        rw [List.getElem?_eq_getElem hjm, Option.some.injEq] at this
                        exact this
                    have z4 : IntKind.i64.wrap ((j : Int) + (m : Int)) = (j : Int) + (m : Int) := IntWalk.i64_in _ (by omega)
                    have z5 : ((j : Int) + (m : Int)).tmod (ra.length : Int) = (((j + m) % ra.length : Nat) : Int) := by
                      rw [Int.tmod_eq_emod_of_nonneg (by omega)]; exact (Int.natCast_emod (j + m) ra.length).symm
                    have z6 : ((j : Int) + (m : Int)) % (ra.length : Int) = (((j + m) % ra.length : Nat) : Int) := (Int.natCast_emod (j + m) ra.length).symm
                    have z1 : ((ra.length : Int) == 0) = false := by rw [beq_eq_false_iff_ne]; omega
                    have z2 : ¬ (ra.length : Int) = 0 := by omega
                    have z3 : ¬ ra = [] := by rintro rfl; simp at hmt
                    have ZS := Lib.hid (And.intro z4 (And.intro z5 (And.intro z6 (And.intro z1 (And.intro z2 (And.intro z3 hjm))))))
                    clear z1 z2 z3 z4 z5 z6 p4 q4 hc5 hc6
                    obtain ⟨jm, hjmm⟩ : ∃ jm, (j + m) % ra.length = jm := ⟨_, rfl⟩
                    simp only [hjmm] at *
                    generalize ra[jm] = x at *
                    generalize rb[m] = y at *
                    obtain ⟨⟨xa, xb, xc⟩, ⟨xd, xe, xf⟩⟩ := x
                    obtain ⟨⟨ya, yb, yc⟩, ⟨yd, ye, yf⟩⟩ := y
                    have E0 : Hid (∀ W, Grow w6 W → W.cell? ⟨b5, o5 + jm * 6, none⟩ = some (.int .i64 xa) ∧ W.cell? ⟨b5, o5 + jm * 6 + 1, none⟩ = some (.int .u64 (xb : Nat)) ∧ W.cell? ⟨b5, o5 + jm * 6 + 2, none⟩ = some (.int .u64 (xc : Nat)) ∧ W.cell? ⟨b5, o5 + jm * 6 + 3, none⟩ = some (.int .i64 xd) ∧ W.cell? ⟨b5, o5 + jm * 6 + 4, none⟩ = some (.int .u64 (xe : Nat)) ∧ W.cell? ⟨b5, o5 + jm * 6 + 5, none⟩ = some (.int .u64 (xf : Nat))) := fun W h => ⟨e0 W h 0 _ rfl, e0 W h 1 _ rfl, e0 W h 2 _ rfl, e0 W h 3 _ rfl, e0 W h 4 _ rfl, e0 W h 5 _ rfl⟩
                    have E1 : Hid (∀ W, Grow w6 W → W.cell? ⟨b6, o6 + m * 6, none⟩ = some (.int .i64 ya) ∧ W.cell? ⟨b6, o6 + m * 6 + 1, none⟩ = some (.int .u64 (yb : Nat)) ∧ W.cell? ⟨b6, o6 + m * 6 + 2, none⟩ = some (.int .u64 (yc : Nat)) ∧ W.cell? ⟨b6, o6 + m * 6 + 3, none⟩ = some (.int .i64 yd) ∧ W.cell? ⟨b6, o6 + m * 6 + 4, none⟩ = some (.int .u64 (ye : Nat)) ∧ W.cell? ⟨b6, o6 + m * 6 + 5, none⟩ = some (.int .u64 (yf : Nat))) := fun W h => ⟨e1 W h 0 _ rfl, e1 W h 1 _ rfl, e1 W h 2 _ rfl, e1 W h 3 _ rfl, e1 W h 4 _ rfl, e1 W h 5 _ rfl⟩
                    clear e0 e1 hjmm hjm
                    go_wp2_with fail
                    refine wp_region_lexT (Grow w6) (hg2.out.dr) 13 [0, 1, 2, 3, 4, 5, 6, 7, 8, 9, 10, 11, 12] (by kernel_rfl) (by kernel_rfl) (by intro c a d v w h; cases d <;> exact h) ?_
                    iterate 13 (apply lext_take; exact rfl; exact rfl; (intro W hW; obtain ⟨z1, z2, z3, z4, z5, z6, z7⟩ := ZS.out; obtain ⟨x0, x1, x2, x3, x4, x5⟩ := E0.out W hW; obtain ⟨y0, y1, y2, y3, y4, y5⟩ := E1.out W hW; (try clear hW); go_simp; with_reducible rfl); try simp only [Act.put, List.setIfInBounds_toArray, List.set_cons_zero, List.set_cons_succ])
                    refine lext_nil ?_
                    simp only [List.drop_succ_cons, List.drop_zero]
                    have hg2 := Lib.hid hg2.out.dr
                    by_cases hji : j = i0
                    · obtain ⟨⟨rfl, rfl, rfl⟩, ⟨rfl, rfl, rfl⟩⟩ : (xa = ya ∧ xb = yb ∧ xc = yc) ∧ (xd = yd ∧ xe = ye ∧ xf = yf) := by have := EQ.out hji; simpa using this
                      clear hji
                      go_wp2
                      go_roundw
                      case rel => exact ⟨m + 1, true, by omega, by go_num, rfl, fun _ => rfl, hg2.out⟩
                      case measure => simp [intOf]; omega
                    · have HJI := Lib.hid hji
                      clear hji
                      go_wp2
                      all_goals
                        go_roundw
                        case rel => exact ⟨m + 1, _, by omega, by go_num, rfl, fun h => absurd h HJI.out, hg2.out⟩
                        case measure => simp [intOf]; omega
                · obtain rfl : m = ra.length := by omega
                  have HN : Hid (sc = true ∨ (j + 1 ≤ i0 ∧ i0 < ra.length)) := by
                    show _ ∨ _
                    cases sc with
                    | true => exact .inl rfl
                    | false => exact .inr ⟨by have := HJ.out; have h : j ≠ i0 := fun e => (by cases (hsc.out e)); omega, HJ.out.2⟩
                  clear p4 q4 hsc
                  go_wp2
                  go_roundw
                  case rel => exact ⟨j + 1, _, by omega, by go_num, rfl, HN.out, hg2.out⟩
                  case measure => simp [intOf]; omega
          · obtain rfl : j = ra.length := by omega
            have hst : sb = true := by
              rcases hsb.out with h | h
              · exact h
              · omega
            subst hst
            have G7 := Lib.hid (G6.out.tr hg.out)
            clear p4 q4
            go_wp2_with fail
            go_at_call 17
            refine live25_any _ ?_
            intro w9 hg9
            have G9 := Lib.hid (G7.out.tr hg9)
            clear hg9
            go_wp2
            exact HR.out _ G9.out
      · have t3 : (lineE l lo hi != 0) = true := by rw [bne_iff_ne]; exact he
        generalize lineE l lo hi = e at *
        clear he k4 h0 hl1
        go_enter Try.func6, Try.ntmps6
        go_wp2_with fail
        go_at_call 19
        refine RE.out _ G0.out _ ?_
        intro w1 hg1
        have G1 := Lib.hid hg1
        clear hg1
        go_wp2_with fail
        go_at_call 17
        refine live25_any _ ?_
        intro w9 hg9
        have G9 := Lib.hid (G1.out.tr hg9)
        clear hg9
        go_wp2
        exact HR.out _ G9.out
end Go.Proofs.Ytjcgkhcbdbbdkaa
