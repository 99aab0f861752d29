/-
  The reference's Same; tile.Find.
-/
import Derived.Test.YtjalimkajcjapaaDoorChecked
import Derived.Test.YtjalimkajcjapaaDoorTSame
import Derived.Deep.Cut
namespace Go.Proofs.YtjalimkajcjapaaDoor
open Go.RowKit B

set_option maxRecDepth 100000 in
set_option maxHeartbeats 8000000 in
theorem rsameT_any (a b : Value) (A B : List LyR) (S T : Nat → Prop) (w : World) (ha : LysRd w S a A) (hb : LysRd w T b B) {R : Ending → World → Prop} (hR : ∀ (c : Bool) w', (c = true ↔ A.map LyR.pl = B.map LyR.pl) → Grow w w' → R (.returned (.bool c)) w') :
    Calls Tryd.prog 12 #[a, b] w R := by
  obtain ⟨ha, hA⟩ := ha
  obtain ⟨hb, hB⟩ := hb
  have ha := ha.lt (by decide)
  have hb := hb.lt (by decide)
  have HA := Lib.hid hA
  have HB := Lib.hid hB
  obtain ⟨_, X, c, rfl, h1, h2, h3, h4⟩ := ha
  obtain ⟨_, Y, d, rfl, k1, k2, k3, k4⟩ := hb
  unfold maxLen at h2 k2
  have HR := Lib.hid hR
  clear hR hA hB
  by_cases hl : A.length = B.length
  · have heq : ((A.length : Int) != B.length) = false := by simp; omega
    have hl := Lib.hid hl
    go_enter Tryd.func12, Tryd.ntmps12
    go_wp2
    go_loopw [5] (fun i wr => ∃ k : Nat, k ≤ A.length ∧ i = .int .i64 k ∧ Hid ((A.take k).map LyR.pl = (B.take k).map LyR.pl) ∧ Hid (Grow w wr)) (fun i _ => A.length - (intOf i).toNat)
    case atStart => exact ⟨0, Nat.zero_le _, rfl, rfl, Grow.refl _⟩
    case round =>
      obtain ⟨k, hk, rfl, ht, hg⟩ := hrel
      by_cases hlt : k < A.length
      · have hlt2 : k < B.length := by rw [← hl.out]; exact hlt
        obtain ⟨b1, o1, rfl, hb1, hc1⟩ := h4 (by omega)
        obtain ⟨b2, o2, rfl, hb2, hc2⟩ := k4 (by omega)
        have e1 := fun W (h : Grow w W) => flat_cells LyR.cells_len h hb1 hc1 hlt
        have e2 := fun W (h : Grow w W) => flat_cells LyR.cells_len h hb2 hc2 hlt2
        have YS : Hid (A[k].pl = B[k].pl → (A.take (k + 1)).map LyR.pl = (B.take (k + 1)).map LyR.pl) := fun h => take_plL hlt hlt2 ht.out h
        have NO : Hid (¬ A[k].pl = B[k].pl → ¬ A.map LyR.pl = B.map LyR.pl) := fun h h2 => h (plL_at hlt hlt2 h2)
        have RA := HA.out A[k] (List.getElem_mem hlt)
        have RB := HB.out B[k] (List.getElem_mem hlt2)
        clear hc1 hc2 h4 k4 h3 k3
        generalize A[k] = x at *
        generalize B[k] = y at *
        have PL := Lib.hid (LyR.pl_iff (x := x) (y := y))
        obtain ⟨xn, xe, xv, xF⟩ := x
        obtain ⟨yn, ye, yv, yF⟩ := y
        have E1 : Hid (∀ W, Grow w W → (W.cell? ⟨b1, o1 + k * 3, none⟩ = some (.string xn) ∧ W.cell? ⟨b1, o1 + k * 3 + 1, none⟩ = some (.int .i64 xe) ∧ W.cell? ⟨b1, o1 + k * 3 + 2, none⟩ = some xv) ∧ W.cell? ⟨b2, o2 + k * 3, none⟩ = some (.string yn) ∧ W.cell? ⟨b2, o2 + k * 3 + 1, none⟩ = some (.int .i64 ye) ∧ W.cell? ⟨b2, o2 + k * 3 + 2, none⟩ = some yv) := fun W h => ⟨⟨e1 W h 0 _ rfl, e1 W h 1 _ rfl, e1 W h 2 _ rfl⟩, e2 W h 0 _ rfl, e2 W h 1 _ rfl, e2 W h 2 _ rfl⟩
        obtain ⟨ra1, ra2⟩ := RA
        obtain ⟨rb1, rb2⟩ := RB
        dsimp only at ra1 ra2 rb1 rb2
        have SA := Lib.hid fun W (hg : Grow w W) (R : Ending → World → Prop) hR => sameFeatures_any xv yv xF yF _ _ _ _ W (ra1.gr2 (by decide) hg) (fun f hf => (ra2 f hf).gr hg) (rb1.gr2 (by decide) hg) (fun f hf => (rb2 f hf).gr hg) (R := R) hR
        clear e1 e2 ra1 ra2 rb1 rb2
        dsimp only at PL
        have NO : Hid (¬ (xn = yn ∧ xe = ye ∧ xF.map FtR.pl = yF.map FtR.pl) → ∀ w', Grow w w' → R (.returned (.bool false)) w') := fun h w' hg => HR.out false w' ⟨fun h2 => (by cases h2), fun h2 => absurd h2 (NO.out fun h3 => h (PL.out.1 h3))⟩ hg
        have YS : Hid (xn = yn ∧ xe = ye ∧ xF.map FtR.pl = yF.map FtR.pl → (A.take (k + 1)).map LyR.pl = (B.take (k + 1)).map LyR.pl) := fun h => YS.out (PL.out.2 h)
        clear PL
        go_upto_region 6 with fail
        refine wp_region_lexT (Grow wr.drew) ((Grow.refl _)) 35 [0, 1, 2, 3, 4, 5, 6, 7, 8, 9, 10, 11, 12, 13, 14, 15, 16, 17, 18, 19, 20, 21, 22, 23, 24, 25, 26, 27, 28, 29, 30, 31, 32, 33, 34] (by kernel_rfl) (by kernel_rfl) (by intro c a d v w h; cases d <;> exact h) ?_
        have GD := Lib.hid (hg.out.tr (Grow.refl wr).dr)
        generalize wr.drew = wd at *
        by_cases hkey : xn.toList = yn.toList
        · have e0 : xn = yn := ba_inj hkey
          subst e0
          clear hkey
          cases tt : (xe != ye) with
          | true =>
            have tn : ¬ xe = ye := by rintro rfl; simp at tt
            iterate 25 (apply lext_take; exact rfl; exact rfl; (intro W hW; obtain ⟨⟨q0, q1, q2⟩, q3, q4, q5⟩ := E1.out W (GD.out.tr hW); (try clear hW); go_simp; with_reducible rfl); try simp only [Act.put, List.setIfInBounds_toArray, List.set_cons_zero, List.set_cons_succ])
            iterate 10 (apply lext_skip; exact rfl; exact rfl; try simp only [Act.put, List.setIfInBounds_toArray, List.set_cons_zero, List.set_cons_succ])
            refine lext_nil ?_
            simp only [List.drop_succ_cons, List.drop_zero]
            clear E1 SA YS
            go_wp2
            exact NO.out (fun h => tn h.2.1) _ GD.out
          | false =>
            have et : xe = ye := by simpa using tt
            subst et
            clear tt
            iterate 35 (apply lext_take; exact rfl; exact rfl; (intro W hW; obtain ⟨⟨q0, q1, q2⟩, q3, q4, q5⟩ := E1.out W (GD.out.tr hW); (try clear hW); go_simp; with_reducible rfl); try simp only [Act.put, List.setIfInBounds_toArray, List.set_cons_zero, List.set_cons_succ])
            refine lext_nil ?_
            simp only [List.drop_succ_cons, List.drop_zero]
            go_wp2_with fail
            go_at_call 32
            refine SA.out _ GD.out _ ?_
            intro cc w1 hc hg1
            have G1 := Lib.hid (GD.out.tr hg1)
            clear hg1 SA E1
            cases cc with
            | true =>
              have Y2 := Lib.hid (YS.out ⟨by first | rfl | trivial, by first | rfl | trivial, hc.1 rfl⟩)
              clear hc NO YS
              go_wp2
              go_roundw
              case rel => exact ⟨k + 1, by omega, by go_num, Y2.out, G1.out⟩
              case measure => simp [intOf]; omega
            | false =>
              have FIN := Lib.hid (NO.out fun h => by have := hc.2 h.2.2; cases this)
              clear hc NO YS
              go_wp2
              exact FIN.out _ G1.out
        · have hk2 : (xn.toList == yn.toList) = false := by rw [beq_eq_false_iff_ne]; exact hkey
          have FIN := Lib.hid (NO.out fun h => hkey (by rw [h.1]))
          iterate 12 (apply lext_take; exact rfl; exact rfl; (intro W hW; obtain ⟨⟨q0, q1, q2⟩, q3, q4, q5⟩ := E1.out W (GD.out.tr hW); (try clear hW); go_simp; with_reducible rfl); try simp only [Act.put, List.setIfInBounds_toArray, List.set_cons_zero, List.set_cons_succ])
          iterate 11 (apply lext_skip; exact rfl; exact rfl; try simp only [Act.put, List.setIfInBounds_toArray, List.set_cons_zero, List.set_cons_succ])
          iterate 2 (apply lext_take; exact rfl; exact rfl; (intro W hW; obtain ⟨⟨q0, q1, q2⟩, q3, q4, q5⟩ := E1.out W (GD.out.tr hW); (try clear hW); go_simp; with_reducible rfl); try simp only [Act.put, List.setIfInBounds_toArray, List.set_cons_zero, List.set_cons_succ])
          iterate 10 (apply lext_skip; exact rfl; exact rfl; try simp only [Act.put, List.setIfInBounds_toArray, List.set_cons_zero, List.set_cons_succ])
          refine lext_nil ?_
          simp only [List.drop_succ_cons, List.drop_zero]
          clear E1 SA YS NO
          go_wp2
          exact FIN.out _ GD.out
      · obtain rfl : k = A.length := by omega
        have e : A.map LyR.pl = B.map LyR.pl := by
          have := ht.out
          rw [List.take_length] at this
          rw [this, List.take_of_length_le (by rw [hl.out]; exact Nat.le_refl _)]
        have h := Lib.hid (HR.out true)
        clear HA HB
        go_wp2
        exact h.out _ ⟨fun _ => e, fun _ => by first | rfl | trivial⟩ hg.out
  · have heq : ((A.length : Int) != B.length) = true := by simp; omega
    have e : ¬ A.map LyR.pl = B.map LyR.pl := fun h => hl (by have := congrArg List.length h; rwa [List.length_map, List.length_map] at this)
    clear HA HB
    go_enter Tryd.func12, Tryd.ntmps12
    go_wp2
    exact HR.out false _ ⟨fun h => (by cases h), fun h => absurd h e⟩ (Grow.refl _)
end Go.Proofs.YtjalimkajcjapaaDoor
