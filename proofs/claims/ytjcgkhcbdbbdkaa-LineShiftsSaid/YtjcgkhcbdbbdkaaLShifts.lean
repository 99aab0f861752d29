/-
  LineShifts, walked.
-/
import Derived.Test.YtjcgkhcbdbbdkaaChecked
import Derived.Test.YtjcgkhcbdbbdkaaLLaw
namespace Go.Proofs.Ytjcgkhcbdbbdkaa
open Go.RowKit B

theorem far_take {n : Int} {l : List Pt} {k : Nat} (hk : k < l.length) (h : ∀ q ∈ l.take k, (mvP n q).far = false) (hx : (mvP n l[k]).far = false) : ∀ q ∈ l.take (k + 1), (mvP n q).far = false := by
  intro q hq
  rw [List.take_succ_eq_append_getElem hk] at hq
  rcases List.mem_append.1 hq with hq | hq
  · exact h q hq
  · rw [List.mem_singleton.1 hq]; exact hx

set_option maxRecDepth 100000 in
set_option maxHeartbeats 16000000 in
theorem lineShifts_walk (l : List Pt) (lo hi n : Int) (a : Value) (S : Nat → Prop) (w : World) (hl : Rd w S 2 a l.length (Pts l)) (hn : -2147483648 ≤ n ∧ n ≤ 2147483647)
    {R : Ending → World → Prop} (hR : ∀ w', Grow w w' → R (.returned (.bool true)) w') :
    Calls Try.prog 9 #[a, .int .i64 lo, .int .i64 hi, .int .i32 n] w R := by
  have HR := Lib.hid hR
  clear hR
  have hl := hl.lt (by decide)
  have HL := Lib.hid hl
  obtain ⟨_, A, c, rfl, k1, k2, k3, k4⟩ := hl
  unfold maxLen at k2
  have G0 := Lib.hid (Grow.refl w)
  have RE := Lib.hid fun (R : Ending → World → Prop) hR => rlineE_any l lo hi _ _ w HL.out (R := R) hR
  have tn : wrap64 n = n := by unfold wrap64; omega
  by_cases hl1 : 40 < l.length
  · have t1 : decide ((40 : Int) < (l.length : Int)) = true := by rw [decide_eq_true_eq]; omega
    clear k4
    go_enter Try.func9, Try.ntmps9
    go_wp2_with fail
    go_at_call 15
    refine live24_any _ ?_
    intro w9 hg9
    have G9 := Lib.hid (G0.out.tr hg9)
    clear hg9
    go_wp2
    exact HR.out _ G9.out
  · have t1 : decide ((40 : Int) < (l.length : Int)) = false := by rw [decide_eq_false_iff_not]; omega
    by_cases he : lineE l lo hi = 0
    · rw [he] at RE
      by_cases h1 : lo < -1125899906842624
      · have t2 : decide (lo < -1125899906842624) = true := decide_eq_true h1
        clear k4 h1
        go_enter Try.func9, Try.ntmps9
        go_wp2_with fail
        go_at_call 19
        refine RE.out _ ?_
        intro w1 hg1
        have G1 := Lib.hid hg1
        clear hg1
        go_wp2_with fail
        go_at_call 15
        refine live24_any _ ?_
        intro w9 hg9
        have G9 := Lib.hid (G1.out.tr hg9)
        clear hg9
        go_wp2
        exact HR.out _ G9.out
      · have t2 : decide (lo < -1125899906842624) = false := decide_eq_false h1
        by_cases h2 : 1125899906842624 < hi
        · have t3 : decide (1125899906842624 < hi) = true := decide_eq_true h2
          clear k4 h1 h2
          go_enter Try.func9, Try.ntmps9
          go_wp2_with fail
          go_at_call 19
          refine RE.out _ ?_
          intro w1 hg1
          have G1 := Lib.hid hg1
          clear hg1
          go_wp2_with fail
          go_at_call 15
          refine live24_any _ ?_
          intro w9 hg9
          have G9 := Lib.hid (G1.out.tr hg9)
          clear hg9
          go_wp2
          exact HR.out _ G9.out
        · have t3 : decide (1125899906842624 < hi) = false := decide_eq_false h2
          have CA := Lib.hid fun W (h : Grow w W) (R : Ending → World → Prop) hR => clipL_any l lo hi _ _ W (HL.out.gr (by decide) h) (by omega) (R := R) hR
          have CB := Lib.hid fun W v' S (h : Rd W S 2 v' (l.map (mvP n)).length (Pts (l.map (mvP n)))) (R : Ending → World → Prop) hR => clipL_any (l.map (mvP n)) (lo + n) (hi + n) v' S W h (by rw [List.length_map]; omega) (R := R) hR
          obtain ⟨hle, hil, hih, hfar⟩ := lineE_zero.1 he
          have MV : Hid ((∀ p ∈ l, (mvP n p).far = false) → lineE (l.map (mvP n)) (lo + n) (hi + n) = 0 ∧ clipR (l.map (mvP n)) (lo + n) (hi + n) = (clipR l lo hi).map (List.map (mvS n))) := fun hf => clip_mv he (by simp only [inw, Bool.and_eq_true, decide_eq_true_eq]; omega) (by simp only [inw, Bool.and_eq_true, decide_eq_true_eq]; omega) hf
          have WL : Hid (IntKind.i64.wrap (lo + n) = lo + n ∧ IntKind.i64.wrap (hi + n) = hi + n) := by
            simp only [inw, Bool.and_eq_true, decide_eq_true_eq] at hil hih
            exact ⟨IntWalk.i64_in _ (by omega), IntWalk.i64_in _ (by omega)⟩
          have HF := Lib.hid hfar
          have HN := Lib.hid hn
          have CI := Lib.hid (clip_in he)
          rw [he] at CA
          clear he hle hil hih hfar hn h1 h2
          go_enter Try.func9, Try.ntmps9
          go_wp2_with fail
          go_at_call 19
          refine RE.out _ ?_
          intro w1 hg1
          have G1 := Lib.hid hg1
          clear hg1
          go_wp2
          clear t1 t2 t3
          go_loopw [11, 10] (fun i s wr => ∃ (k : Nat), k ≤ l.length ∧ i = .int .i64 k ∧ wr.ownsRow w1.heap.size 23 2 s k (Pts ((l.take k).map (mvP n))) ∧ Hid (∀ q ∈ l.take k, (mvP n q).far = false) ∧ Hid (Grow w1 wr)) (fun i _ _ => l.length - (intOf i).toNat)
          case atStart => exact ⟨0, Nat.zero_le _, rfl, World.ownsRow_nil _ _ _ _, fun q hq => by simp at hq, Grow.refl _⟩
          case round =>
            obtain ⟨k, hk, rfl, hown, hall, hg⟩ := hrel
            by_cases hlt : k < l.length
            · obtain ⟨b, o, rfl, hS, hc⟩ := k4 (by omega)
              have e0 := fun W (h : Grow w1 W) => flat_cells Pt.cells_len (G1.out.tr h) hS hc hlt
              have FT : Hid ((mvP n (l[k]'hlt)).far = false → ∀ q ∈ l.take (k + 1), (mvP n q).far = false) := far_take hlt hall.out
              have TS : Hid (Pts ((l.take (k + 1)).map (mvP n)) = Pts ((l.take k).map (mvP n)) ++ (mvP n (l[k]'hlt)).cells) := by
                show _ = _
                rw [List.take_succ_eq_append_getElem hlt, List.map_append, Pts_app]
                simp [Pts]
              have LM : Hid (((l.take k).map (mvP n)).length = k) := by show _ = _; rw [List.length_map, List.length_take]; omega
              have PF := Lib.hid fun W (R : Ending → World → Prop) hR => pfar_any (mvP n (l[k]'hlt)) W (R := R) hR
              have HXF := HF.out (l[k]'hlt) (List.getElem_mem hlt)
              have HO := Lib.hid hown
              clear hc k4 k3 hown CA CB MV WL CI HF
              generalize l[k]'hlt = x at *
              generalize hfx : (mvP n x).far = fx at *
              clear hfx
              obtain ⟨x1, x2⟩ := x
              have hx := far_in HXF
              simp only [inw, Bool.and_eq_true, decide_eq_true_eq] at hx
              have WX : Hid (IntKind.i64.wrap (x1 + n) = x1 + n ∧ IntKind.i64.wrap (x2 + n) = x2 + n) := by
                have := HN.out
                exact ⟨IntWalk.i64_in _ (by omega), IntWalk.i64_in _ (by omega)⟩
              have E0 : Hid (∀ W, Grow w1 W → W.cell? ⟨b, o + k * 2, none⟩ = some (.int .i64 x1) ∧ W.cell? ⟨b, o + k * 2 + 1, none⟩ = some (.int .i64 x2)) := fun W h => ⟨e0 W h 0 _ rfl, e0 W h 1 _ rfl⟩
              rw [show mvP n ⟨x1, x2⟩ = ⟨x1 + n, x2 + n⟩ from rfl] at PF TS
              unfold Pt.cells at PF TS
              dsimp only at PF TS
              clear e0 hx HXF
              go_wp2_with fail
              refine wp_region_lexT (Grow w1) (hg.out.dr) 17 [0, 1, 2, 3, 4, 5, 6, 7, 8, 9, 10, 11, 12, 13, 14, 15, 16] (by kernel_rfl) (by kernel_rfl) (by intro c a d v w h; cases d <;> exact h) ?_
              iterate 16 (apply lext_take; exact rfl; exact rfl; (intro W hW; obtain ⟨z1, z2⟩ := WX.out; obtain ⟨y0, y1⟩ := E0.out W hW; (try clear hW); go_simp; with_reducible rfl); try simp only [Act.put, List.setIfInBounds_toArray, List.set_cons_zero, List.set_cons_succ])
              have HO := Lib.hid (own_grow HO.out (Grow.refl _).dr)
              have hg := Lib.hid hg.out.dr
              apply lext_turn; exact rfl; exact rfl; exact rfl; intro K hK; go_simp; refine hK.out _ _ (hg.out.al _) ?_; clear hK; try simp only [Act.put, List.setIfInBounds_toArray, List.set_cons_zero, List.set_cons_succ]
              refine lext_nil ?_
              simp only [List.drop_succ_cons, List.drop_zero]
              go_wp2_with (at_builtin; refine wpList_newAt rfl _ _ rfl el_pt HO.out rfl 1 _ rfl _ rfl (by decide) rfl (by simp [Value.oneCell']) (by omega) hg.out ⟨Nat.le_refl _, hg.out.size⟩ ?_; intro v5 w5 hO5 hg5 hgr5 hb5; have HO5 := Lib.hid (own_eq hO5 rfl (by rw [TS.out]) : w5.ownsRow w1.heap.size 23 2 v5 (k + 1) (Pts ((l.take (k + 1)).map (mvP n)))); have GB5 := Lib.hid hg5; obtain ⟨A5, c5, rfl⟩ := own_slice hO5; clear hO5 hg5 hgr5 hb5)
              have HN5 := Lib.hid (Rd.own_lt HO5.out)
              obtain ⟨_, A', c', hv, -, p2, -, p4⟩ := HN5.out
              injection hv with e1 e2 e3
              clear e2
              subst e1 e3
              obtain ⟨b5, o5, rfl, hS5, hc5⟩ := p4 (by omega)
              have q0 := hc5 (k * 2) (.int .i64 (x1 + n)) (by rw [TS.out, List.getElem?_append_right (by rw [Pts_len, LM.out]; exact Nat.le_refl _), Pts_len, LM.out, Nat.sub_self]; rfl)
              have q1 := hc5 (k * 2 + 1) (.int .i64 (x2 + n)) (by rw [TS.out, List.getElem?_append_right (by rw [Pts_len, LM.out]; omega), Pts_len, LM.out, show k * 2 + 1 - k * 2 = 1 by omega]; rfl)
              rw [← Nat.add_assoc] at q1
              clear hc5 hS5 p4 p2
              have G5 := Lib.hid GB5.out
              obtain ⟨m, hm⟩ : ∃ m, m = k + 1 := ⟨_, rfl⟩
              have KM := Lib.hid hm
              have km : k < m := by omega
              rw [← hm] at HO5 TS
              simp only [← hm] at FT ⊢
              clear HN5 GB5 HO E0 hg hm
              go_wp2_with fail
              go_simp
              go_wp2_with fail
              go_at_call 36
              refine PF.out _ _ ?_
              intro w6 hg6
              have G6 := Lib.hid (G5.out.tr hg6)
              have HO6 := Lib.hid (own_grow HO5.out hg6)
              clear hg6 q0 q1 HO5 G5 km
              cases fx with
              | true =>
                have G7 := Lib.hid (G1.out.tr G6.out)
                go_wp2_with fail
                go_at_call 15
                refine live24_any _ ?_
                intro w9 hg9
                have G9 := Lib.hid (G7.out.tr hg9)
                clear hg9
                go_wp2
                exact HR.out _ G9.out
              | false =>
                go_wp2
                go_roundw
                case rel => exact ⟨m, by have := KM.out; omega, by rw [KM.out]; go_num, HO6.out, FT.out (by first | rfl | trivial), G6.out⟩
                case measure => simp [intOf]; omega
            · obtain rfl : k = l.length := by omega
              have G7 := Lib.hid (G1.out.tr hg.out)
              have HALL := hall.out
              rw [List.take_length] at hown HALL
              have HOWN := Lib.hid hown
              obtain ⟨hle, hcl⟩ := MV.out (fun p hp => HALL p hp)
              rw [hle, hcl] at CB
              clear hall HALL hown MV hle hcl HF k4
              generalize clipR l lo hi = PA at *
              obtain ⟨z1, z2⟩ := WL.out
              go_wp2_with fail
              go_at_call 33
              refine CA.out _ G7.out _ ?_
              intro r5 rows5 w5 hO5 hR5 hE5 hg5
              have G8 := Lib.hid (G7.out.tr hg5)
              have HO5 := Lib.hid hO5
              have HR5 := Lib.hid hR5
              have HE5 := Lib.hid hE5
              have HOWN := Lib.hid (Rd.own (own_eq (own_grow HOWN.out hg5) (List.length_map (mvP n)).symm rfl))
              clear hO5 hR5 hE5 hg5 CA
              go_wp2_with fail
              go_at_call 33
              refine CB.out _ _ _ HOWN.out _ ?_
              intro r6 rows6 w6 hO6 hR6 hE6 hg6
              have G9 := Lib.hid (G8.out.tr hg6)
              have RA := Lib.hid (Rd.own_lt (own_grow HO5.out hg6))
              have RB := Lib.hid (Rd.own_lt hO6)
              have EA : Hid (∀ x ∈ rows5, Rd w6 (· < w6.heap.size) 6 x.v x.l.length (Spots x.l)) := fun x hx => ((HE5.out x hx).gr (by decide) hg6).up hg6.size
              have EB := Lib.hid hE6
              have HR6 := Lib.hid hR6
              obtain ⟨A5, c5, rfl⟩ := own_slice HO5.out
              obtain ⟨A6, c6, rfl⟩ := own_slice hO6
              clear hO6 hR6 hE6 hg6 CB HO5 HE5 HOWN G8 G7 z1 z2 WL
              have LE : Hid (rows6.length = rows5.length) := by show _ = _; have h1 := congrArg List.length HR5.out; have h2 := congrArg List.length HR6.out; simp only [List.length_map] at h1 h2; omega
              rw [LE.out]
              rw [LE.out] at RB
              have RW : Hid (∀ (i : Nat) (h : i < rows5.length) (h' : i < rows6.length), rows6[i].l = rows5[i].l.map (mvS n) ∧ rows5[i].l ∈ PA) := by
                intro i h h'
                have h1 : (rows5.map SRow.l)[i]? = PA[i]? := by rw [HR5.out]
                have h2 : (rows6.map SRow.l)[i]? = (PA.map (List.map (mvS n)))[i]? := by rw [HR6.out]
                rw [List.getElem?_map, List.getElem?_eq_getElem h, Option.map_some] at h1
                rw [List.getElem?_map, List.getElem?_eq_getElem h', List.getElem?_map, ← h1] at h2
                simp only [Option.map_some, Option.some.injEq] at h2
                exact ⟨h2, List.mem_of_getElem? h1.symm⟩
              --LOOPS
              go_wp2_with fail
              go_at_call 34
              refine code24_any _ _ ?_
              go_wp2_with fail
              go_at_call 34
              refine code24_any _ _ ?_
              obtain ⟨na, hna⟩ : ∃ na, na = rows5.length := ⟨_, rfl⟩
              have NA := Lib.hid hna
              rw [← hna] at RA RB ⊢
              clear hna
              go_wp2
              go_loopw [16] (fun i wr => ∃ (k : Nat), k ≤ na ∧ i = .int .i64 k ∧ Hid (Grow w6 wr)) (fun i _ => na - (intOf i).toNat)
              case atStart => exact ⟨0, Nat.zero_le _, rfl, Grow.refl _⟩
              case round =>
                obtain ⟨j, hj, rfl, hg⟩ := hrel
                by_cases hlt : j < na
                · have hj5 : j < rows5.length := by have := NA.out; omega
                  have hj6 : j < rows6.length := by have := NA.out; have := LE.out; omega
                  obtain ⟨_, A', c', hv, p1, p2, -, p4⟩ := RA.out
                  injection hv with e1 e2 e3
                  clear e2
                  subst e1 e3
                  obtain ⟨_, A', c', hv, -, q2, -, q4⟩ := RB.out
                  injection hv with e1 e2 e3
                  clear e2
                  subst e1 e3
                  obtain ⟨b5, o5, rfl, hS5, hc5⟩ := p4 (by omega)
                  obtain ⟨b6, o6, rfl, hS6, hc6⟩ := q4 (by omega)
                  obtain ⟨eRW, mRW⟩ := RW.out j hj5 hj6
                  obtain ⟨xl, A7, c7, hv7, m1, m2, m3, m4⟩ := EA.out _ (List.getElem_mem hj5)
                  obtain ⟨yl, A8, c8, hv8, n1, n2, n3, n4⟩ := EB.out _ (List.getElem_mem hj6)
                  have IN := Lib.hid (CI.out _ mRW)
                  have C5 : Hid (∀ W, Grow w6 W → W.cell? ⟨b5, o5 + j, none⟩ = some (.slice A7 rows5[j].l.length c7)) := fun W h => by
                    refine (h.cell (p := ⟨b5, o5 + j, none⟩) hS5).trans (hc5 _ _ ?_)
                    rw [List.getElem?_map, List.getElem?_eq_getElem hj5, Option.map_some, hv7]
                  have C6 : Hid (∀ W, Grow w6 W → W.cell? ⟨b6, o6 + j, none⟩ = some (.slice A8 rows5[j].l.length c8)) := fun W h => by
                    refine (h.cell (p := ⟨b6, o6 + j, none⟩) hS6).trans (hc6 _ _ ?_)
                    rw [List.getElem?_map, List.getElem?_eq_getElem hj6, Option.map_some, hv8, eRW, List.length_map]
                  rw [eRW, List.length_map] at n1 n4
                  unfold maxLen at m2 n2 p2
                  generalize rows5[j].l = la at *
                  clear p4 q4 hc5 hc6 hv7 hv8 eRW mRW xl yl q2 m3 n3
                  obtain ⟨nb, hnb⟩ : ∃ nb, nb = la.length := ⟨_, rfl⟩
                  have NB := Lib.hid hnb
                  rw [← hnb] at C5 C6 m1 m4 n1 n4
                  clear hnb
                  go_wp2_with fail
                  refine wp_region_lexT (Grow w6) (hg.out.dr) 10 [0, 1, 2, 3, 4, 5, 6, 7, 8, 9] (by kernel_rfl) (by kernel_rfl) (by intro c a d v w h; cases d <;> exact h) ?_
                  iterate 10 (apply lext_take; exact rfl; exact rfl; (intro W hW; have z5 := C5.out W hW; have z6 := C6.out W hW; (try clear hW); go_simp; with_reducible rfl); try simp only [Act.put, List.setIfInBounds_toArray, List.set_cons_zero, List.set_cons_succ])
                  refine lext_nil ?_
                  simp only [List.drop_succ_cons, List.drop_zero]
                  have hg := Lib.hid hg.out.dr
                  generalize wr.drew = w7 at *
                  go_wp2
                  clear n1
                  go_loopw [17] (fun i wr => ∃ (k : Nat), k ≤ nb ∧ i = .int .i64 k ∧ Hid (Grow w6 wr)) (fun i _ => nb - (intOf i).toNat)
                  case atStart => exact ⟨0, Nat.zero_le _, rfl, hg.out⟩
                  case round =>
                  obtain ⟨m, hm, rfl, hg2⟩ := hrel
                  have z5 := C5.out wr hg2.out
                  have z6 := C6.out wr hg2.out
                  by_cases hmt : m < nb
                  · have hml : m < la.length := by have := NB.out; omega
                    obtain ⟨b7, o7, rfl, hS7, hc7⟩ := m4 (by omega)
                    obtain ⟨b8, o8, rfl, hS8, hc8⟩ := n4 (by omega)
                    have e7 := fun W (h : Grow w6 W) => flat_cells Spot.cells_len h hS7 hc7 hml
                    have e8 := fun W (h : Grow w6 W) => flat_cells Spot.cells_len h hS8 hc8 (i := m) (by rw [List.length_map]; exact hml)
                    have SI := IN.out _ (List.getElem_mem hml)
                    simp only [List.getElem_map] at e8
                    clear hc7 hc8 m4 n4
                    generalize la[m] = x at *
                    obtain ⟨⟨xa, xb, xc⟩, ⟨xd, xe, xf⟩⟩ := x
                    have WX : Hid (IntKind.i64.wrap (xa + n) = xa + n ∧ IntKind.i64.wrap (xd + n) = xd + n) := by
                      obtain ⟨s1, s2⟩ := SI
                      simp only [inw, Bool.and_eq_true, decide_eq_true_eq] at s1 s2
                      have := HN.out
                      exact ⟨IntWalk.i64_in _ (by omega), IntWalk.i64_in _ (by omega)⟩
                    have E0 : Hid (∀ W, Grow w6 W → W.cell? ⟨b7, o7 + m * 6, none⟩ = some (.int .i64 xa) ∧ W.cell? ⟨b7, o7 + m * 6 + 1, none⟩ = some (.int .u64 (xb : Nat)) ∧ W.cell? ⟨b7, o7 + m * 6 + 2, none⟩ = some (.int .u64 (xc : Nat)) ∧ W.cell? ⟨b7, o7 + m * 6 + 3, none⟩ = some (.int .i64 xd) ∧ W.cell? ⟨b7, o7 + m * 6 + 4, none⟩ = some (.int .u64 (xe : Nat)) ∧ W.cell? ⟨b7, o7 + m * 6 + 5, none⟩ = some (.int .u64 (xf : Nat))) := fun W h => ⟨e7 W h 0 _ rfl, e7 W h 1 _ rfl, e7 W h 2 _ rfl, e7 W h 3 _ rfl, e7 W h 4 _ rfl, e7 W h 5 _ rfl⟩
                    have E1 : Hid (∀ W, Grow w6 W → W.cell? ⟨b8, o8 + m * 6, none⟩ = some (.int .i64 (xa + n)) ∧ W.cell? ⟨b8, o8 + m * 6 + 1, none⟩ = some (.int .u64 (xb : Nat)) ∧ W.cell? ⟨b8, o8 + m * 6 + 2, none⟩ = some (.int .u64 (xc : Nat)) ∧ W.cell? ⟨b8, o8 + m * 6 + 3, none⟩ = some (.int .i64 (xd + n)) ∧ W.cell? ⟨b8, o8 + m * 6 + 4, none⟩ = some (.int .u64 (xe : Nat)) ∧ W.cell? ⟨b8, o8 + m * 6 + 5, none⟩ = some (.int .u64 (xf : Nat))) := fun W h => ⟨e8 W h 0 _ rfl, e8 W h 1 _ rfl, e8 W h 2 _ rfl, e8 W h 3 _ rfl, e8 W h 4 _ rfl, e8 W h 5 _ rfl⟩
                    clear e7 e8 SI hml
                    go_wp2_with fail
                    clear z5 z6
                    refine wp_region_freeS ⟨14, some 18, 28, #[.int .i64 0, .int .u64 0, .int .u64 0, .int .i64 0, .int .u64 0, .int .u64 0]⟩ ⟨15, some 19, 28, #[.int .i64 0, .int .u64 0, .int .u64 0, .int .i64 0, .int .u64 0, .int .u64 0]⟩ 17 [0, 1, 2, 3, 4, 5, 6, 7, 8, 9, 10, 11, 12, 13] [16] (by kernel_rfl) (by kernel_rfl) (by decide) ⟨_, rfl, rfl, rfl, fun a W K h => by go_simp; exact h⟩ ⟨_, rfl, rfl, rfl, fun a W K h => by go_simp; exact h⟩ (by intro c a d v w h; cases d <;> exact h) u18 u19 rfl rfl ?_
                    have GD := Lib.hid hg2.out.dr
                    generalize wr.drew = w3d at *
                    iterate 14
                      apply frs_take; exact rfl; (simp); (simp); (intro x1 x2; exact rfl)
                      · intro x1 x2 W' hW
                        have z5 := C5.out W' (GD.out.tr hW)
                        have z6 := C6.out W' (GD.out.tr hW)
                        obtain ⟨y0, y1, y2, y3, y4, y5⟩ := E0.out W' (GD.out.tr hW)
                        obtain ⟨v0, v1, v2, v3, v4, v5⟩ := E1.out W' (GD.out.tr hW)
                        clear hW
                        simp only [FA.put2, Act.put, List.setIfInBounds_toArray, List.set_cons_zero, List.set_cons_succ]
                        go_simp
                        with_reducible rfl
                      simp only [Act.put, List.setIfInBounds_toArray, List.set_cons_zero, List.set_cons_succ]
                    refine frs_nil ?_
                    intro b1 b2 V hV hJ hne hb1 hb2
                    have BA : Hid (BoxH w3d b1 #[.int .i64 0, .int .u64 0, .int .u64 0, .int .i64 0, .int .u64 0, .int .u64 0] 28 V) := ⟨hV, hb1.1, hb1.2⟩
                    have BB : Hid (BoxH w3d b2 #[.int .i64 0, .int .u64 0, .int .u64 0, .int .i64 0, .int .u64 0, .int .u64 0] 28 V) := ⟨hV, hb2.1, hb2.2⟩
                    have N12 : b1 ≠ b2 := hne
                    have N21 : b2 ≠ b1 := fun e => hne e.symm
                    refine ⟨Grow w3d, fun _ h => h, hV, ?_⟩
                    clear hV hne hb1 hb2 hJ E0 E1 C5 C6
                    unfold ptrTo FA.put2
                    simp only [Act.put, List.setIfInBounds_toArray, List.set_cons_zero, List.set_cons_succ, List.drop_succ_cons, List.drop_zero]
                    have uz0 := BA.out.cell 0
                    have ug0 := BA.out.free 0
                    have uB1 := Lib.hid (BA.out.set 0 (.int .i64 xa))
                    have uz1 := uB1.out.cell 1
                    have ug1 := uB1.out.free 1
                    have uB2 := Lib.hid (uB1.out.set 1 (.int .u64 (xb : Nat)))
                    have uz2 := uB2.out.cell 2
                    have ug2 := uB2.out.free 2
                    have uB3 := Lib.hid (uB2.out.set 2 (.int .u64 (xc : Nat)))
                    have uz3 := uB3.out.cell 3
                    have ug3 := uB3.out.free 3
                    have uB4 := Lib.hid (uB3.out.set 3 (.int .i64 xd))
                    have uz4 := uB4.out.cell 4
                    have ug4 := uB4.out.free 4
                    have uB5 := Lib.hid (uB4.out.set 4 (.int .u64 (xe : Nat)))
                    have uz5 := uB5.out.cell 5
                    have ug5 := uB5.out.free 5
                    have uB6 := Lib.hid (uB5.out.set 5 (.int .u64 (xf : Nat)))
                    have BBc := Lib.hid (((((((BB.out.other (j := 0) (v := .int .i64 xa) N21 BA.out.2.1).other (j := 1) (v := .int .u64 (xb : Nat)) N21 BA.out.2.1).other (j := 2) (v := .int .u64 (xc : Nat)) N21 BA.out.2.1).other (j := 3) (v := .int .i64 xd) N21 BA.out.2.1).other (j := 4) (v := .int .u64 (xe : Nat)) N21 BA.out.2.1).other (j := 5) (v := .int .u64 (xf : Nat)) N21 BA.out.2.1))
                    have vz0 := BBc.out.cell 0
                    have vg0 := BBc.out.free 0
                    have vB1 := Lib.hid (BBc.out.set 0 (.int .i64 (xa + n)))
                    have vz1 := vB1.out.cell 1
                    have vg1 := vB1.out.free 1
                    have vB2 := Lib.hid (vB1.out.set 1 (.int .u64 (xb : Nat)))
                    have vz2 := vB2.out.cell 2
                    have vg2 := vB2.out.free 2
                    have vB3 := Lib.hid (vB2.out.set 2 (.int .u64 (xc : Nat)))
                    have vz3 := vB3.out.cell 3
                    have vg3 := vB3.out.free 3
                    have vB4 := Lib.hid (vB3.out.set 3 (.int .i64 (xd + n)))
                    have vz4 := vB4.out.cell 4
                    have vg4 := vB4.out.free 4
                    have vB5 := Lib.hid (vB4.out.set 4 (.int .u64 (xe : Nat)))
                    have vz5 := vB5.out.cell 5
                    have vg5 := vB5.out.free 5
                    have vB6 := Lib.hid (vB5.out.set 5 (.int .u64 (xf : Nat)))
                    have BAc := Lib.hid (((((((uB6.out.other (j := 0) (v := .int .i64 (xa + n)) N12 BB.out.2.1).other (j := 1) (v := .int .u64 (xb : Nat)) N12 BB.out.2.1).other (j := 2) (v := .int .u64 (xc : Nat)) N12 BB.out.2.1).other (j := 3) (v := .int .i64 (xd + n)) N12 BB.out.2.1).other (j := 4) (v := .int .u64 (xe : Nat)) N12 BB.out.2.1).other (j := 5) (v := .int .u64 (xf : Nat)) N12 BB.out.2.1))
                    apply lext_turn; exact rfl; exact rfl; exact rfl; intro K hK; go_simp; refine hK.out _ _ uB6.out.grow ?_
                    clear hK
                    try simp only [Act.put, List.setIfInBounds_toArray, List.set_cons_zero, List.set_cons_succ]
                    refine lext_nil ?_
                    go_upto_region 24 with fail
                    clear uz0 ug0 uz1 ug1 uz2 ug2 uz3 ug3 uz4 ug4 uz5 ug5 vz0 vg0 vz1 vg1 vz2 vg2 vz3 vg3 vz4 vg4 vz5 vg5
                    generalize ((((((((((((V.setCell ⟨b1, 0, none⟩ (.int .i64 xa)).setCell ⟨b1, 1, none⟩ (.int .u64 (xb : Nat))).setCell ⟨b1, 2, none⟩ (.int .u64 (xc : Nat))).setCell ⟨b1, 3, none⟩ (.int .i64 xd)).setCell ⟨b1, 4, none⟩ (.int .u64 (xe : Nat))).setCell ⟨b1, 5, none⟩ (.int .u64 (xf : Nat))).setCell ⟨b2, 0, none⟩ (.int .i64 (xa + n))).setCell ⟨b2, 1, none⟩ (.int .u64 (xb : Nat))).setCell ⟨b2, 2, none⟩ (.int .u64 (xc : Nat))).setCell ⟨b2, 3, none⟩ (.int .i64 (xd + n))).setCell ⟨b2, 4, none⟩ (.int .u64 (xe : Nat))).setCell ⟨b2, 5, none⟩ (.int .u64 (xf : Nat))) = w5 at *
                    have sE := BAc.out
                    have tE := vB6.out
                    simp only [List.setIfInBounds_toArray, List.set_cons_zero, List.set_cons_succ] at sE tE
                    clear BAc BBc BA BB uB1 vB1 uB2 vB2 uB3 vB3 uB4 vB4 uB5 vB5 uB6 vB6
                    have a0 := sE.cell 0
                    have a3 := sE.cell 3
                    have ag0 := sE.free 0
                    have B1 := Lib.hid (sE.set 0 (.int .i64 (xa + n)))
                    have ag3 := B1.out.free 3
                    have B2 := Lib.hid (B1.out.set 3 (.int .i64 (xd + n)))
                    have B3 := Lib.hid ((tE.other (j := 0) (v := .int .i64 (xa + n)) N21 sE.2.1).other (j := 3) (v := .int .i64 (xd + n)) N21 sE.2.1)
                    obtain ⟨z1, z2⟩ := WX.out
                    clear sE tE
                    go_upto_region 25 with fail
                    clear a0 a3 ag0 ag3
                    generalize (w5.setCell ⟨b1, 0, none⟩ (.int .i64 (xa + n))).setCell ⟨b1, 3, none⟩ (.int .i64 (xd + n)) = w9 at *
                    have sE := B2.out
                    have tE := B3.out
                    simp only [List.setIfInBounds_toArray, List.set_cons_zero, List.set_cons_succ] at sE tE
                    have G9' := Lib.hid (GD.out.tr sE.grow)
                    have a0 := sE.cell 0
                    have a1 := sE.cell 1
                    have a2 := sE.cell 2
                    have a3 := sE.cell 3
                    have a4 := sE.cell 4
                    have a5 := sE.cell 5
                    have c0 := tE.cell 0
                    have c1 := tE.cell 1
                    have c2 := tE.cell 2
                    have c3 := tE.cell 3
                    have c4 := tE.cell 4
                    have c5 := tE.cell 5
                    clear sE tE B1 B2 B3
                    go_wp2
                    go_roundw
                    case rel => exact ⟨m + 1, by omega, by go_num, G9'.out⟩
                    case measure => simp [intOf]; omega
                  · obtain rfl : m = nb := by omega
                    go_wp2
                    go_roundw
                    case rel => exact ⟨j + 1, by omega, by go_num, hg2.out⟩
                    case measure => simp [intOf]; omega
                · obtain rfl : j = na := by omega
                  have G10 := Lib.hid (G9.out.tr hg.out)
                  go_wp2_with fail
                  go_at_call 15
                  refine live24_any _ ?_
                  intro w9 hg9
                  have G9 := Lib.hid (G10.out.tr hg9)
                  clear hg9
                  go_wp2
                  exact HR.out _ G9.out
    · have t2 : (lineE l lo hi != 0) = true := by rw [bne_iff_ne]; exact he
      generalize lineE l lo hi = e at *
      clear he k4
      go_enter Try.func9, Try.ntmps9
      go_wp2_with fail
      go_at_call 19
      refine RE.out _ ?_
      intro w1 hg1
      have G1 := Lib.hid hg1
      clear hg1
      go_wp2_with fail
      go_at_call 15
      refine live24_any _ ?_
      intro w9 hg9
      have G9 := Lib.hid (G1.out.tr hg9)
      clear hg9
      go_wp2
      exact HR.out _ G9.out
end Go.Proofs.Ytjcgkhcbdbbdkaa
