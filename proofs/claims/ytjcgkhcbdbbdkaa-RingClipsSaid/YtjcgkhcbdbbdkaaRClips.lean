/-
  RingClips, walked.
-/
import Derived.Test.YtjcgkhcbdbbdkaaChecked
import Derived.Test.YtjcgkhcbdbbdkaaRRQ
import Derived.Test.YtjcgkhcbdbbdkaaRL5
import Derived.Test.YtjcgkhcbdbbdkaaRngE
namespace Go.Proofs.Ytjcgkhcbdbbdkaa
open Go.RowKit B

set_option maxRecDepth 100000 in
set_option maxHeartbeats 8000000 in
theorem ringClips_walk (l : List Pt) (lo hi : Int) (a : Value) (S : Nat → Prop) (w : World) (hl : Rd w S 2 a l.length (Pts l)) (hok : ∀ p ∈ l, p.ok) (hlo : I64 lo) (hhi : I64 hi)
    {R : Ending → World → Prop} (hR : ∀ w', Grow w w' → R (.returned (.bool true)) w') :
    Calls Try.prog 4 #[a, .int .i64 lo, .int .i64 hi] w R := by
  have HR := Lib.hid hR
  clear hR
  have hl := hl.lt (by decide)
  have HL := Lib.hid hl
  obtain ⟨_, A, c, rfl, k1, k2, k3, k4⟩ := hl
  unfold maxLen at k2
  clear k3 k4
  have G0 := Lib.hid (Grow.refl w)
  by_cases hl1 : 40 < l.length
  · have t1 : decide ((40 : Int) < (l.length : Int)) = true := by rw [decide_eq_true_eq]; omega
    go_enter Try.func4, Try.ntmps4
    go_wp2_with fail
    go_at_call 17
    refine live25_any _ ?_
    intro w9 hg9
    have G9 := Lib.hid (G0.out.tr hg9)
    clear hg9
    go_wp2
    exact HR.out _ G9.out
  · have t1 : decide ((40 : Int) < (l.length : Int)) = false := by rw [decide_eq_false_iff_not]; omega
    have CA := Lib.hid fun W (h : Grow w W) (R : Ending → World → Prop) hR => clip25_any l lo hi _ _ W (HL.out.gr (by decide) h) (by omega) hok hlo hhi (R := R) hR
    have RE := Lib.hid fun W (h : Grow w W) (R : Ending → World → Prop) hR => rlineE_any l lo hi _ _ W (HL.out.gr (by decide) h) (R := R) hR
    have CR := Lib.hid fun W (h : Grow w W) (R : Ending → World → Prop) hR => rclip25_any l lo hi _ _ W (HL.out.gr (by decide) h) (by omega) hok hlo hhi (R := R) hR
    have CE : Hid (lineE l lo hi ≠ 0 → ringR l lo hi = []) := fun h => by unfold ringR; rw [if_neg h]
    have CL : Hid (lineE l lo hi = 0 → (ringR l lo hi).map Spot.pq = clip25Q l lo hi ∧ ∀ s ∈ ringR l lo hi, s.rt) := fun h => by unfold ringR; rw [if_pos h]; exact ring_law h
    generalize lineE l lo hi = e at *
    generalize ringR l lo hi = PA at *
    generalize clip25Q l lo hi = QA at *
    clear hok hlo hhi
    go_enter Try.func4, Try.ntmps4
    go_wp2_with fail
    clear t1
    go_at_call 18
    refine CA.out _ G0.out _ ?_
    intro r5 w5 hO5 hg5
    have HO5 := Lib.hid hO5
    have G5 := Lib.hid hg5
    obtain ⟨A5, c5, rfl⟩ := own_slice hO5
    clear hO5 hg5 CA
    go_wp2_with fail
    go_at_call 19
    refine RE.out _ G5.out _ ?_
    intro w6 hg6
    have G6 := Lib.hid (G5.out.tr hg6)
    have HO5 := Lib.hid (own_grow HO5.out hg6)
    clear hg6 RE G5
    go_wp2_with fail
    go_at_call 20
    refine code25_any _ _ ?_
    by_cases he : e = 0
    · subst he
      obtain ⟨hcl, hrt⟩ := CL.out rfl
      have HRT := Lib.hid hrt
      have HCL := Lib.hid hcl
      clear hcl hrt CL CE
      go_wp2_with fail
      go_at_call 22
      refine CR.out _ G6.out _ ?_
      intro r7 m7 w7 hO7 hq7 hv7 hg7
      have G7 := Lib.hid (G6.out.tr hg7)
      have IA := Lib.hid fun (R : Ending → World → Prop) hR => isAll_any PA m7 7256 _ _ _ _ (fun _ => True) w7 (Rd.own_lt (own_grow HO5.out hg7)) (Rd.own_lt hO7) (fun s hs => ⟨rt_ok25 (HRT.out s hs), HRT.out s hs⟩) hv7 (by omega) (HCL.out.trans hq7.symm) (R := R) hR
      obtain ⟨A7, c7, rfl⟩ := own_slice hO7
      clear hO7 hq7 hv7 hg7 CR HO5 G6 HCL HRT HL
      go_wp2_with fail
      go_at_call 21
      refine IA.out _ ?_
      intro w8 hg8
      have G8 := Lib.hid (G7.out.tr hg8)
      clear hg8 IA
      go_wp2_with fail
      go_at_call 17
      refine live25_any _ ?_
      intro w9 hg9
      have G9 := Lib.hid (G8.out.tr hg9)
      clear hg9
      go_wp2
      exact HR.out _ G9.out
    · have t2 : (e != 0) = true := by rw [bne_iff_ne]; exact he
      have h5 : PA = [] := CE.out he
      subst h5
      clear CE CL CR HO5
      have h0 : ([] : List Spot).length = 0 := rfl
      rw [h0]
      clear h0
      go_wp2_with fail
      go_at_call 17
      refine live25_any _ ?_
      intro w9 hg9
      have G9 := Lib.hid (G6.out.tr hg9)
      clear hg9
      go_wp2
      exact HR.out _ G9.out
end Go.Proofs.Ytjcgkhcbdbbdkaa
