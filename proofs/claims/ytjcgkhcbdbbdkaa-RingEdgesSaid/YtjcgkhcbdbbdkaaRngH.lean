/-
  RingEdges, walked.
-/
import Derived.Test.YtjcgkhcbdbbdkaaChecked
import Derived.Test.YtjcgkhcbdbbdkaaRngG
namespace Go.Proofs.Ytjcgkhcbdbbdkaa
open Go.RowKit B

theorem all_take_succ (p : List Pt) (lo hi : Int) (k : Nat) (hk : k < p.length) : (p.take (k + 1)).all (fun q => q.inside lo hi) = ((p.take k).all (fun q => q.inside lo hi) && (p[k]).inside lo hi) := by
  rw [List.take_succ_eq_append_getElem hk, List.all_append]
  simp

set_option maxRecDepth 100000 in
set_option maxHeartbeats 2000000 in
theorem ringEdges_walk (l : List Spot) (p : List Pt) (lo hi : Int) (a b : Value) (S T : Nat → Prop) (w : World) (hl : Rd w S 6 a l.length (Spots l)) (hp : Rd w T 2 b p.length (Pts p)) (hpk : ∀ q ∈ p, q.ok) (hlo : I64 lo) (hhi : I64 hi)
    {R : Ending → World → Prop} (hR : ∀ w', Grow w w' → R (.returned (.bool true)) w') :
    Calls Try.prog 7 #[a, b, .int .i64 lo, .int .i64 hi] w R := by
  have HR := Lib.hid hR
  clear hR
  have hl := hl.lt (by decide)
  have hp := hp.lt (by decide)
  have HL := Lib.hid hl
  have HP := Lib.hid hp
  obtain ⟨_, A, c, rfl, k1, k2, k3, k4⟩ := hl
  obtain ⟨_, B, d, rfl, j1, j2, j3, j4⟩ := hp
  unfold maxLen at k2 j2
  have G0 := Lib.hid (Grow.refl w)
  by_cases hl1 : 60 < l.length
  · have t1 : decide ((60 : Int) < (l.length : Int)) = true := by rw [decide_eq_true_eq]; omega
    clear k4 j4
    go_enter Try.func7, Try.ntmps7
    go_wp2_with fail
    go_at_call 17
    refine live25_any _ ?_
    intro w9 hg9
    have G9 := Lib.hid (G0.out.tr hg9)
    clear hg9
    go_wp2
    exact HR.out _ G9.out
  · have t1 : decide ((60 : Int) < (l.length : Int)) = false := by rw [decide_eq_false_iff_not]; omega
    by_cases hp1 : 60 < p.length
    · have t2 : decide ((60 : Int) < (p.length : Int)) = true := by rw [decide_eq_true_eq]; omega
      clear k4 j4
      go_enter Try.func7, Try.ntmps7
      go_wp2_with fail
      go_at_call 17
      refine live25_any _ ?_
      intro w9 hg9
      have G9 := Lib.hid (G0.out.tr hg9)
      clear hg9
      go_wp2
      exact HR.out _ G9.out
    · have t2 : decide ((60 : Int) < (p.length : Int)) = false := by rw [decide_eq_false_iff_not]; omega
      have EC := Lib.hid fun (R : Ending → World → Prop) hR => edges25_any l _ _ w HL.out (by omega) (R := R) hR
      have CC := Lib.hid fun W (h : Grow w W) (R : Ending → World → Prop) hR => clip25_any p lo hi _ _ W (HP.out.gr (by decide) h) (by omega) hpk hlo hhi (R := R) hR
      have RE := Lib.hid fun W (h : Grow w W) (R : Ending → World → Prop) hR => rlineE_any p lo hi _ _ W (HP.out.gr (by decide) h) (R := R) hR
      have RI := Lib.hid fun (h1 : lineE p lo hi = 0) (h2 : p.all (fun q => q.inside lo hi) = true) => ring_inside (lo := lo) (hi := hi) h1 h2
      clear HP hpk hlo hhi HL
      generalize hE : lineE p lo hi = e at *
      clear hE
      go_enter Try.func7, Try.ntmps7
      go_wp2_with fail
      clear t1 t2
      go_at_call 31
      refine EC.out _ ?_
      intro r1 w1 hO1 hg1
      have G1 := Lib.hid hg1
      obtain ⟨A1, c1, rfl⟩ := own_slice hO1
      have HE := Lib.hid (Rd.own_lt hO1)
      clear hO1 hg1 EC
      go_wp2
      go_loopw [10] (fun i wr => ∃ (k : Nat), k ≤ l.length ∧ i = .int .i64 k ∧ Hid (Grow w1 wr)) (fun i _ => l.length - (intOf i).toNat)
      case atStart => exact ⟨0, Nat.zero_le _, rfl, Grow.refl _⟩
      case round =>
        obtain ⟨k, hk, rfl, hg⟩ := hrel
        by_cases hlt : k < l.length
        · obtain ⟨b2, o2, rfl, hS, hc⟩ := k4 (by omega)
          obtain ⟨_, A', c', hv, -, -, -, q4⟩ := HE.out
          injection hv with e1 e2 e3
          subst e1 e3
          obtain ⟨b3, o3, rfl, hS3, hc3⟩ := q4 (by omega)
          have hm : (k + 1) % l.length < l.length := Nat.mod_lt _ (by omega)
          have hkE : k < (cycTo edN l l.length).length := by rw [edN_len l _ (Nat.le_refl _)]; exact hlt
          have hE := edN_at l l.length k (Nat.le_refl _) hlt
          rw [List.getElem?_eq_getElem hkE, Option.some.injEq] at hE
          have e0 := fun W (h : Grow w1 W) => flat_cells Spot.cells_len (G1.out.tr h) hS hc hlt
          have e1 := fun W (h : Grow w1 W) => flat_cells Spot.cells_len (G1.out.tr h) hS hc hm
          have e2 := fun W (h : Grow w1 W) => flat_cells Edge.cells_len h hS3 hc3 hkE
          rw [hE] at e2
          have z4 : IntKind.i64.wrap ((k : Int) + 1) = (k : Int) + 1 := IntWalk.i64_in _ (by omega)
          have z5 : ((k : Int) + 1).tmod (l.length : Int) = (((k + 1) % l.length : Nat) : Int) := by
            rw [Int.tmod_eq_emod_of_nonneg (by omega)]; exact (Int.natCast_emod (k + 1) l.length).symm
          have z6 : ((k : Int) + 1) % (l.length : Int) = (((k + 1) % l.length : Nat) : Int) := (Int.natCast_emod (k + 1) l.length).symm
          have z1 : ((l.length : Int) == 0) = false := by rw [beq_eq_false_iff_ne]; omega
          have z2 : ¬ (l.length : Int) = 0 := by omega
          have z3 : ¬ l = [] := by rintro rfl; simp at hlt
          have ZS := Lib.hid (And.intro z4 (And.intro z5 (And.intro z6 (And.intro z1 (And.intro z2 (And.intro z3 hm))))))
          clear z1 z2 z3 z4 z5 z6
          clear hc k4 k3 j4 j3 hE hc3 q4
          obtain ⟨m, hmm⟩ : ∃ m, (k + 1) % l.length = m := ⟨_, rfl⟩
          simp only [hmm] at *
          generalize l[k] = x at *
          generalize l[m] = y at *
          obtain ⟨⟨xa, xb, xc⟩, ⟨xd, xe, xf⟩⟩ := x
          obtain ⟨⟨ya, yb, yc⟩, ⟨yd, ye, yf⟩⟩ := y
          have E0 : Hid (∀ W, Grow w1 W → W.cell? ⟨b2, o2 + k * 6, none⟩ = some (.int .i64 xa) ∧ W.cell? ⟨b2, o2 + k * 6 + 1, none⟩ = some (.int .u64 (xb : Nat)) ∧ W.cell? ⟨b2, o2 + k * 6 + 2, none⟩ = some (.int .u64 (xc : Nat)) ∧ W.cell? ⟨b2, o2 + k * 6 + 3, none⟩ = some (.int .i64 xd) ∧ W.cell? ⟨b2, o2 + k * 6 + 4, none⟩ = some (.int .u64 (xe : Nat)) ∧ W.cell? ⟨b2, o2 + k * 6 + 5, none⟩ = some (.int .u64 (xf : Nat))) := fun W h => ⟨e0 W h 0 _ rfl, e0 W h 1 _ rfl, e0 W h 2 _ rfl, e0 W h 3 _ rfl, e0 W h 4 _ rfl, e0 W h 5 _ rfl⟩
          have E1 : Hid (∀ W, Grow w1 W → W.cell? ⟨b2, o2 + m * 6, none⟩ = some (.int .i64 ya) ∧ W.cell? ⟨b2, o2 + m * 6 + 1, none⟩ = some (.int .u64 (yb : Nat)) ∧ W.cell? ⟨b2, o2 + m * 6 + 2, none⟩ = some (.int .u64 (yc : Nat)) ∧ W.cell? ⟨b2, o2 + m * 6 + 3, none⟩ = some (.int .i64 yd) ∧ W.cell? ⟨b2, o2 + m * 6 + 4, none⟩ = some (.int .u64 (ye : Nat)) ∧ W.cell? ⟨b2, o2 + m * 6 + 5, none⟩ = some (.int .u64 (yf : Nat))) := fun W h => ⟨e1 W h 0 _ rfl, e1 W h 1 _ rfl, e1 W h 2 _ rfl, e1 W h 3 _ rfl, e1 W h 4 _ rfl, e1 W h 5 _ rfl⟩
          have E2 : Hid (∀ W, Grow w1 W → W.cell? ⟨b3, o3 + k * 12, none⟩ = some (.int .i64 xa) ∧ W.cell? ⟨b3, o3 + k * 12 + 1, none⟩ = some (.int .u64 (xb : Nat)) ∧ W.cell? ⟨b3, o3 + k * 12 + 2, none⟩ = some (.int .u64 (xc : Nat)) ∧ W.cell? ⟨b3, o3 + k * 12 + 3, none⟩ = some (.int .i64 xd) ∧ W.cell? ⟨b3, o3 + k * 12 + 4, none⟩ = some (.int .u64 (xe : Nat)) ∧ W.cell? ⟨b3, o3 + k * 12 + 5, none⟩ = some (.int .u64 (xf : Nat))) := fun W h => ⟨e2 W h 0 _ rfl, e2 W h 1 _ rfl, e2 W h 2 _ rfl, e2 W h 3 _ rfl, e2 W h 4 _ rfl, e2 W h 5 _ rfl⟩
          have E3 : Hid (∀ W, Grow w1 W → W.cell? ⟨b3, o3 + k * 12 + 6, none⟩ = some (.int .i64 ya) ∧ W.cell? ⟨b3, o3 + k * 12 + 7, none⟩ = some (.int .u64 (yb : Nat)) ∧ W.cell? ⟨b3, o3 + k * 12 + 8, none⟩ = some (.int .u64 (yc : Nat)) ∧ W.cell? ⟨b3, o3 + k * 12 + 9, none⟩ = some (.int .i64 yd) ∧ W.cell? ⟨b3, o3 + k * 12 + 10, none⟩ = some (.int .u64 (ye : Nat)) ∧ W.cell? ⟨b3, o3 + k * 12 + 11, none⟩ = some (.int .u64 (yf : Nat))) := fun W h => ⟨e2 W h 6 _ rfl, e2 W h 7 _ rfl, e2 W h 8 _ rfl, e2 W h 9 _ rfl, e2 W h 10 _ rfl, e2 W h 11 _ rfl⟩
          clear e0 e1 e2 hmm hm
          go_wp2_with fail
          refine wp_region_lexT (Grow w1) (hg.out.dr) 24 [0, 1, 2, 3, 4, 5, 6, 7, 8, 9, 10, 11, 12, 13, 14, 15, 16, 17, 18, 19, 20, 21, 22, 23] (by kernel_rfl) (by kernel_rfl) (by intro c a d v w h; cases d <;> exact h) ?_
          iterate 24 (apply lext_take; exact rfl; exact rfl; (intro W hW; obtain ⟨z1, z2, z3, z4, z5, z6, z7⟩ := ZS.out; obtain ⟨x0, x1, x2, x3, x4, x5⟩ := E0.out W hW; obtain ⟨y0, y1, y2, y3, y4, y5⟩ := E1.out W hW; obtain ⟨a0, a1, a2, a3, a4, a5⟩ := E2.out W hW; obtain ⟨b0, b1, b2, b3, b4, b5⟩ := E3.out W hW; (try clear hW); go_simp; with_reducible rfl); try simp only [Act.put, List.setIfInBounds_toArray, List.set_cons_zero, List.set_cons_succ])
          refine lext_nil ?_
          simp only [List.drop_succ_cons, List.drop_zero]
          go_wp2
          go_roundw
          case rel => exact ⟨k + 1, by omega, by go_num, hg.out.dr⟩
          case measure => simp [intOf]; omega
        · obtain rfl : k = l.length := by omega
          have G1 := Lib.hid (G1.out.tr hg.out)
          clear HE hg k4
          go_wp2_with fail
          generalize wr = w2 at *
          go_at_call 18
          refine CC.out _ G1.out _ ?_
          intro r3 w3 hO3 hg3
          have G3 := Lib.hid (G1.out.tr hg3)
          obtain ⟨A3, c3, rfl⟩ := own_slice hO3
          have HS := Lib.hid (Rd.own_lt hO3)
          clear hO3 hg3 CC
          go_wp2_with fail
          go_at_call 19
          refine RE.out _ G3.out _ ?_
          intro w4 hg4
          have HS := Lib.hid (HS.out.gr2 (by decide) hg4)
          have G4 := Lib.hid (G3.out.tr hg4)
          clear hg4 RE G3
          obtain ⟨q0, hq0⟩ : ∃ q, (e == 0) = q := ⟨_, rfl⟩
          have Q0 : Hid (q0 = true → e = 0) := fun h => by rw [h] at hq0; exact beq_iff_eq.1 hq0
          go_wp2
          clear hq0
          go_loopw [14, 13] (fun i v wr => ∃ (k : Nat), k ≤ p.length ∧ i = .int .i64 k ∧ v = .bool (q0 && (p.take k).all (fun q => q.inside lo hi)) ∧ Hid (Grow w4 wr)) (fun i _ _ => p.length - (intOf i).toNat)
          case atStart => exact ⟨0, Nat.zero_le _, rfl, by simp, Grow.refl _⟩
          case round =>
            obtain ⟨k, hk, rfl, rfl, hg⟩ := hrel
            by_cases hlt : k < p.length
            · obtain ⟨b2, o2, rfl, hS, hc⟩ := j4 (by omega)
              have e0 := flat_cells Pt.cells_len (G4.out.tr hg.out) hS hc hlt
              have AT := Lib.hid (all_take_succ p lo hi k hlt)
              generalize (p.take k).all (fun q => q.inside lo hi) = ak at *
              have HI := Lib.hid fun W (R : Ending → World → Prop) hR => inside_any (p[k]'hlt) lo hi W (R := R) hR
              generalize (p[k]'hlt).inside lo hi = bk at *
              generalize p[k]'hlt = x at *
              obtain ⟨xa, xb⟩ := x
              have x0 := e0 0 _ rfl
              have x1 := e0 1 _ rfl
              simp only [Nat.add_zero] at x0
              unfold Pt.cells at HI
              dsimp only at HI
              clear hc j4 j3 e0
              cases hc : (q0 && ak) with
              | false =>
                have CF : Hid ((q0 && (ak && bk)) = false) := by show _ = _; rw [← Bool.and_assoc, hc]; rfl
                clear hc
                go_wp2_with fail
                go_roundw
                case rel => exact ⟨k + 1, by omega, by go_num, by rw [AT.out, CF.out], hg.out⟩
                case measure => simp [intOf]; omega
              | true =>
                have CF : Hid ((q0 && (ak && bk)) = bk) := by show _ = _; rw [← Bool.and_assoc, hc]; rfl
                clear hc
                go_wp2_with fail
                go_at_call 14
                refine HI.out _ _ ?_
                intro w5 hg5
                have hg := Lib.hid (hg.out.tr hg5)
                clear hg5 x0 x1
                go_wp2_with fail
                go_roundw
                case rel => exact ⟨k + 1, by omega, by go_num, by rw [AT.out, CF.out], hg.out⟩
                case measure => simp [intOf]; omega
            · obtain rfl : k = p.length := by omega
              rw [List.take_length]
              have G5 := Lib.hid (G4.out.tr hg.out)
              cases hc : (q0 && p.all (fun q => q.inside lo hi)) with
              | false =>
                clear hc
                go_wp2_with fail
                go_at_call 17
                refine live25_any _ ?_
                intro w9 hg9
                have G9 := Lib.hid (G5.out.tr hg9)
                clear hg9
                go_wp2
                exact HR.out _ G9.out
              | true =>
                rw [Bool.and_eq_true] at hc
                have HE0 := Q0.out hc.1
                have RS := RI.out HE0 hc.2
                have hs := (HS.out.gr2 (by decide) hg.out).lt (by decide)
                rw [RS, List.length_map] at hs
                rw [RS, List.length_map]
                subst HE0
                clear hc Q0 RI G4 hg j3 RS HS
                generalize wr = w6 at *
                obtain ⟨_, A', c', hv, -, p2, -, p4⟩ := hs
                injection hv with e1 e2 e3
                clear e2
                subst e1 e3
                unfold maxLen at p2
                go_wp2_with fail
                go_at_call 20
                refine code25_any _ _ ?_
                go_wp2
                go_loopw [15] (fun i wr => ∃ (k : Nat), k ≤ p.length ∧ i = .int .i64 k ∧ Hid (Grow w6 wr)) (fun i _ => p.length - (intOf i).toNat)
                case atStart => exact ⟨0, Nat.zero_le _, rfl, Grow.refl _⟩
                case round =>
                  obtain ⟨k, hk, rfl, hg⟩ := hrel
                  by_cases hlt : k < p.length
                  · obtain ⟨b2, o2, rfl, hS, hc⟩ := j4 (by omega)
                    obtain ⟨b3, o3, rfl, hS3, hc3⟩ := p4 (by omega)
                    have e0 := fun W (h : Grow w6 W) => flat_cells Pt.cells_len (G5.out.tr h) hS hc hlt
                    have e1 := fun W (h : Grow w6 W) => flat_cells Spot.cells_len h hS3 hc3 (show k < (p.map wholeSpot).length by rw [List.length_map]; exact hlt)
                    rw [List.getElem_map] at e1
                    clear hc hc3 j4 p4
                    generalize p[k]'hlt = x at *
                    obtain ⟨xa, xb⟩ := x
                    have E0 : Hid (∀ W, Grow w6 W → W.cell? ⟨b2, o2 + k * 2, none⟩ = some (.int .i64 xa) ∧ W.cell? ⟨b2, o2 + k * 2 + 1, none⟩ = some (.int .i64 xb)) := fun W h => ⟨e0 W h 0 _ rfl, e0 W h 1 _ rfl⟩
                    have E1 : Hid (∀ W, Grow w6 W → W.cell? ⟨b3, o3 + k * 6, none⟩ = some (.int .i64 xa) ∧ W.cell? ⟨b3, o3 + k * 6 + 1, none⟩ = some (.int .u64 0) ∧ W.cell? ⟨b3, o3 + k * 6 + 2, none⟩ = some (.int .u64 1) ∧ W.cell? ⟨b3, o3 + k * 6 + 3, none⟩ = some (.int .i64 xb) ∧ W.cell? ⟨b3, o3 + k * 6 + 4, none⟩ = some (.int .u64 0) ∧ W.cell? ⟨b3, o3 + k * 6 + 5, none⟩ = some (.int .u64 1)) := fun W h => ⟨e1 W h 0 _ rfl, e1 W h 1 _ rfl, e1 W h 2 _ rfl, e1 W h 3 _ rfl, e1 W h 4 _ rfl, e1 W h 5 _ rfl⟩
                    clear e0 e1
                    go_wp2_with fail
                    refine wp_region_lexT (Grow w6) (hg.out.dr) 15 [0, 1, 2, 3, 4, 5, 6, 7, 8, 9, 10, 11, 12, 13, 14] (by kernel_rfl) (by kernel_rfl) (by intro c a d v w h; cases d <;> exact h) ?_
                    iterate 14 (apply lext_take; exact rfl; exact rfl; (intro W hW; obtain ⟨x0, x1⟩ := E0.out W hW; obtain ⟨a0, a1, a2, a3, a4, a5⟩ := E1.out W hW; (try clear hW); go_simp; with_reducible rfl); try simp only [Act.put, List.setIfInBounds_toArray, List.set_cons_zero, List.set_cons_succ])
                    apply lext_turn; exact rfl; exact rfl; exact rfl; intro K hK; go_simp; go_at_call 32; refine spot25_any _ _ _ ?_; intro w5 hg5; have hg := Lib.hid (hg.out.dr.tr hg5); refine hK.out _ _ hg.out ?_; clear hK hg5
                    try simp only [Act.put, List.setIfInBounds_toArray, List.set_cons_zero, List.set_cons_succ]
                    refine lext_nil ?_
                    simp only [List.drop_succ_cons, List.drop_zero]
                    go_wp2
                    go_roundw
                    case rel => exact ⟨k + 1, by omega, by go_num, hg.out⟩
                    case measure => simp [intOf]; omega
                  · obtain rfl : k = p.length := by omega
                    have G7 := Lib.hid (G5.out.tr hg.out)
                    go_wp2_with fail
                    go_at_call 17
                    refine live25_any _ ?_
                    intro w9 hg9
                    have G9 := Lib.hid (G7.out.tr hg9)
                    clear hg9
                    go_wp2
                    exact HR.out _ G9.out
end Go.Proofs.Ytjcgkhcbdbbdkaa
