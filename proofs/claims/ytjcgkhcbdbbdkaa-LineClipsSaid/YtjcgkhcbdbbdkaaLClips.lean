/-
  LineClips, walked.
-/
import Derived.Test.YtjcgkhcbdbbdkaaChecked
import Derived.Test.YtjcgkhcbdbbdkaaRL6
import Derived.Test.YtjcgkhcbdbbdkaaLSegs
namespace Go.Proofs.Ytjcgkhcbdbbdkaa
open Go.RowKit B

set_option maxRecDepth 100000 in
set_option maxHeartbeats 8000000 in
theorem lineClips_walk (l : List Pt) (lo hi : Int) (a : Value) (S : Nat → Prop) (w : World) (hl : Rd w S 2 a l.length (Pts l)) (hok : ∀ p ∈ l, p.ok) (hlo : I64 lo) (hhi : I64 hi)
    {R : Ending → World → Prop} (hR : ∀ w', Grow w w' → R (.returned (.bool true)) w') :
    Calls Try.prog 8 #[a, .int .i64 lo, .int .i64 hi] w R := by
  have HR := Lib.hid hR
  clear hR
  have hl := hl.lt (by decide)
  have HL := Lib.hid hl
  obtain ⟨_, A, c, rfl, k1, k2, k3, k4⟩ := hl
  unfold maxLen at k2
  clear k3 k4
  have G0 := Lib.hid (Grow.refl w)
  by_cases hl1 : 60 < l.length
  · have t1 : decide ((60 : Int) < (l.length : Int)) = true := by rw [decide_eq_true_eq]; omega
    go_enter Try.func8, Try.ntmps8
    go_wp2_with fail
    go_at_call 15
    refine live24_any _ ?_
    intro w9 hg9
    have G9 := Lib.hid (G0.out.tr hg9)
    clear hg9
    go_wp2
    exact HR.out _ G9.out
  · have t1 : decide ((60 : Int) < (l.length : Int)) = false := by rw [decide_eq_false_iff_not]; omega
    have CA := Lib.hid fun W (h : Grow w W) (R : Ending → World → Prop) hR => clipL_any l lo hi _ _ W (HL.out.gr (by decide) h) (by omega) (R := R) hR
    have RE := Lib.hid fun W (h : Grow w W) (R : Ending → World → Prop) hR => rlineE_any l lo hi _ _ W (HL.out.gr (by decide) h) (R := R) hR
    have CR := Lib.hid fun W (h : Grow w W) (R : Ending → World → Prop) hR => rclip_any l lo hi _ _ W (HL.out.gr (by decide) h) (by omega) hok hlo hhi (R := R) hR
    have CE : Hid (lineE l lo hi ≠ 0 → clipR l lo hi = []) := fun h => by unfold clipR; rw [if_neg h]
    have CL : Hid (lineE l lo hi = 0 → (clipR l lo hi).map (List.map Spot.pq) = clipQ l lo hi ∧ ∀ part ∈ clipR l lo hi, ∀ s ∈ part, s.rt) := clip_law
    generalize lineE l lo hi = e at *
    generalize clipR l lo hi = PA at *
    generalize clipQ l lo hi = QA at *
    clear hok hlo hhi
    go_enter Try.func8, Try.ntmps8
    go_wp2_with fail
    clear t1
    go_at_call 33
    refine CA.out _ G0.out _ ?_
    intro r5 rows5 w5 hO5 hR5 hE5 hg5
    have HO5 := Lib.hid hO5
    have HR5 := Lib.hid hR5
    have HE5 := Lib.hid hE5
    have G5 := Lib.hid hg5
    obtain ⟨A5, c5, rfl⟩ := own_slice hO5
    clear hO5 hR5 hE5 hg5 CA
    go_wp2_with fail
    go_at_call 19
    refine RE.out _ G5.out _ ?_
    intro w6 hg6
    have G6 := Lib.hid (G5.out.tr hg6)
    have HO5 := Lib.hid (own_grow HO5.out hg6)
    have EA : Hid (∀ x ∈ rows5, Rd w6 (· < w6.heap.size) 6 x.v x.l.length (Spots x.l)) := fun x hx => ((HE5.out x hx).gr (by decide) hg6).up hg6.size
    clear hg6 RE HE5 G5
    go_wp2_with fail
    go_at_call 34
    refine code24_any _ _ ?_
    by_cases he : e = 0
    · subst he
      obtain ⟨hcl, hrt⟩ := CL.out rfl
      have HRT := Lib.hid hrt
      have HCL := Lib.hid hcl
      clear hcl hrt CL CE
      go_wp2_with fail
      go_at_call 35
      refine CR.out _ G6.out _ ?_
      intro r7 rows7 w7 hO7 hR7 hE7 hg7
      have G7 := Lib.hid (G6.out.tr hg7)
      have RA := Lib.hid (Rd.own_lt (own_grow HO5.out hg7))
      have RB := Lib.hid (Rd.own_lt hO7)
      have EA : Hid (∀ x ∈ rows5, Rd w7 (· < w6.heap.size) 6 x.v x.l.length (Spots x.l)) := fun x hx => (EA.out x hx).gr (by decide) hg7
      have EB := Lib.hid hE7
      have LE : Hid (rows7.length = rows5.length) := by
        show _ = _
        have h1 := congrArg List.length HCL.out
        have h2 := congrArg List.length HR5.out
        have h3 := congrArg List.length hR7
        unfold RQ at h3
        simp only [List.length_map] at h1 h2 h3
        omega
      have RW : Hid (∀ (i : Nat) (h : i < rows5.length) (h' : i < rows7.length), rows5[i].l.map Spot.pq = rows7[i].l.map PV.q ∧ ∀ s ∈ rows5[i].l, s.ok ∧ s.rt) := by
        intro i h h'
        have h1 : (rows5.map SRow.l)[i]? = PA[i]? := by rw [HR5.out]
        have h2 : (PA.map (List.map Spot.pq))[i]? = (RQ rows7)[i]? := by rw [HCL.out, hR7]
        unfold RQ at h2
        rw [List.getElem?_map, List.getElem?_eq_getElem h, Option.map_some] at h1
        rw [List.getElem?_map, ← h1, List.getElem?_map, List.getElem?_eq_getElem h'] at h2
        simp only [Option.map_some, Option.some.injEq] at h2
        exact ⟨h2, fun s hs => ⟨Spot.rt_ok (HRT.out _ (List.mem_of_getElem? h1.symm) s hs), HRT.out _ (List.mem_of_getElem? h1.symm) s hs⟩⟩
      obtain ⟨A7, c7, rfl⟩ := own_slice hO7
      clear hO7 hR7 hE7 hg7 CR HO5 G6 HR5 HCL HRT HL
      rw [LE.out]
      rw [LE.out] at RB
      obtain ⟨na, hna⟩ : ∃ na, na = rows5.length := ⟨_, rfl⟩
      have NA := Lib.hid hna
      rw [← hna] at RA RB ⊢
      clear hna
      go_wp2
      go_loopw [11] (fun i wr => ∃ (k : Nat), k ≤ na ∧ i = .int .i64 k ∧ Hid (Grow w7 wr)) (fun i _ => na - (intOf i).toNat)
      case atStart => exact ⟨0, Nat.zero_le _, rfl, Grow.refl _⟩
      case round =>
        obtain ⟨j, hj, rfl, hg⟩ := hrel
        by_cases hlt : j < na
        · have hj5 : j < rows5.length := by have := NA.out; omega
          have hj7 : j < rows7.length := by have := NA.out; have := LE.out; omega
          obtain ⟨_, A', c', hv, p1, p2, -, p4⟩ := RA.out
          injection hv with e1 e2 e3
          clear e2
          subst e1 e3
          obtain ⟨_, A', c', hv, -, q2, -, q4⟩ := RB.out
          injection hv with e1 e2 e3
          clear e2
          subst e1 e3
          unfold maxLen at p2
          obtain ⟨b5, o5, rfl, hS5, hc5⟩ := p4 (by omega)
          obtain ⟨b7, o7, rfl, hS7, hc7⟩ := q4 (by omega)
          obtain ⟨eQ, eO⟩ := RW.out j hj5 hj7
          have hEA := EA.out _ (List.getElem_mem hj5)
          obtain ⟨hEB, hPV⟩ := EB.out _ (List.getElem_mem hj7)
          have IA := Lib.hid fun W (h : Grow w7 W) (R : Ending → World → Prop) hR => isAll_any (rows5[j]'hj5).l (rows7[j]'hj7).l 15 (rows5[j]'hj5).v (rows7[j]'hj7).v _ _ (fun _ => True) W (hEA.gr2 (by decide) h) (hEB.gr2 (by decide) h) eO (fun p hp => (hPV p hp).gr h) (by omega) eQ (R := R) hR
          have C5 : Hid (∀ W, Grow w7 W → W.cell? ⟨b5, o5 + j, none⟩ = some (rows5[j]'hj5).v) := fun W h => by
            refine (h.cell (p := ⟨b5, o5 + j, none⟩) hS5).trans (hc5 _ _ ?_)
            rw [List.getElem?_map, List.getElem?_eq_getElem hj5, Option.map_some]
          have C7 : Hid (∀ W, Grow w7 W → W.cell? ⟨b7, o7 + j, none⟩ = some (rows7[j]'hj7).v) := fun W h => by
            refine (h.cell (p := ⟨b7, o7 + j, none⟩) hS7).trans (hc7 _ _ ?_)
            rw [List.getElem?_map, List.getElem?_eq_getElem hj7, Option.map_some]
          obtain ⟨-, A8, c8, hv8, -, -, -, -⟩ := hEA
          obtain ⟨-, A9, c9, hv9, -, -, -, -⟩ := hEB
          rw [hv8] at C5 IA
          rw [hv9] at C7 IA
          clear p4 q4 hc5 hc7 q2 eQ eO hPV hv8 hv9
          go_wp2_with fail
          refine wp_region_lexT (Grow w7) (hg.out.dr) 8 [0, 1, 2, 3, 4, 5, 6, 7] (by kernel_rfl) (by kernel_rfl) (by intro c a d v w h; cases d <;> exact h) ?_
          iterate 8 (apply lext_take; exact rfl; exact rfl; (intro W hW; have z5 := C5.out W hW; have z7 := C7.out W hW; (try clear hW); go_simp; with_reducible rfl); try simp only [Act.put, List.setIfInBounds_toArray, List.set_cons_zero, List.set_cons_succ])
          refine lext_nil ?_
          simp only [List.drop_succ_cons, List.drop_zero]
          have hg := Lib.hid hg.out.dr
          generalize wr.drew = w8 at *
          go_wp2_with fail
          go_at_call 21
          refine IA.out _ hg.out _ ?_
          intro w9 hg9
          have hg := Lib.hid (hg.out.tr hg9)
          clear hg9 IA C5 C7
          go_wp2
          go_roundw
          case rel => exact ⟨j + 1, by omega, by go_num, hg.out⟩
          case measure => simp [intOf]; omega
        · obtain rfl : j = na := by omega
          have G10 := Lib.hid (G7.out.tr hg.out)
          go_wp2_with fail
          go_at_call 15
          refine live24_any _ ?_
          intro w9 hg9
          have G9 := Lib.hid (G10.out.tr hg9)
          clear hg9
          go_wp2
          exact HR.out _ G9.out
    · have t2 : (e != 0) = true := by rw [bne_iff_ne]; exact he
      have h5 : rows5 = [] := by
        have h := CE.out he
        have h2 := HR5.out
        rw [h] at h2
        exact List.map_eq_nil_iff.1 h2
      subst h5
      clear CE CL CR HR5 EA HO5
      have h0 : ([] : List SRow).length = 0 := rfl
      rw [h0]
      clear h0
      go_wp2_with fail
      go_at_call 15
      refine live24_any _ ?_
      intro w9 hg9
      have G9 := Lib.hid (G6.out.tr hg9)
      clear hg9
      go_wp2
      exact HR.out _ G9.out
end Go.Proofs.Ytjcgkhcbdbbdkaa
