/-
  ValueGets, walked.
-/
import Derived.Test.YtehffeglgdcogaaDoorChecked
import Derived.Test.YtehffeglgdcogaaDoorVRGet
import Derived.Test.YtehffeglgdcogaaDoorVLive
namespace Go.Proofs.YtehffeglgdcogaaDoor
open Go.RowKit B

set_option maxRecDepth 100000 in
set_option maxHeartbeats 200000 in
theorem code8_any (e : Int) (w : World) {R : Ending → World → Prop} (hR : R (.returned (.int .i64 e)) w) : Calls Tryd.prog 13 #[.int .i64 e] w R := by
  have HR := Lib.hid hR
  clear hR
  go_enter Tryd.func13, Tryd.ntmps13
  go_wp2
  exact HR.out

set_option maxRecDepth 100000 in
set_option maxHeartbeats 16000000 in
theorem valueGets_walk (l : List UInt8) (v : Value) (S : Nat → Prop) (w : World) (hb : Rd w S 1 v l.length (U8 l)) (hT : Tabs w) {R : Ending → World → Prop} (hR : ∀ w', Grow w w' → R (.returned (.bool true)) w') :
    Calls Tryd.prog 4 #[v] w R := by
  have HR := Lib.hid hR
  have HT := Lib.hid hT
  have HB := Lib.hid (hb.lt (by decide))
  have LV := Lib.hid fun W (h : Tabs W) (R : Ending → World → Prop) hR => live8_any W h (R := R) hR
  obtain ⟨_, A, c, rfl, h1, h2, -, -⟩ := hb
  unfold maxLen at h2
  clear hR hT
  obtain ⟨q, hq⟩ : ∃ q, decide ((500 : Int) < (l.length : Int)) = q := ⟨_, rfl⟩
  go_enter Tryd.func4, Tryd.ntmps4
  cases q with
  | true =>
    go_wp2_with fail
    go_at_call 6
    refine LV.out _ HT.out _ ?_
    intro w9 hg9
    have G9 := Lib.hid hg9
    clear hg9
    go_wp2
    exact HR.out _ G9.out
  | false =>
    have hl : l.length ≤ 100000 := by have := of_decide_eq_false hq; omega
    have GG := Lib.hid fun W (hg : Grow w W) (R : Ending → World → Prop) hR => vget_any l (.slice A l.length c) _ W (HB.out.gr (by decide) hg) hl (HT.out.gr hg) (R := R) hR
    have RG := Lib.hid fun W (hg : Grow w W) (R : Ending → World → Prop) hR => rvget_any l (.slice A l.length c) _ W (HB.out.gr (by decide) hg) hl (HT.out.gr hg) (R := R) hR
    obtain ⟨x, ex, hx⟩ : ∃ x ex, getS l = (x, ex) := ⟨_, _, rfl⟩
    rw [hx] at GG RG
    obtain ⟨xk, xt, xb⟩ := x
    have CD := Lib.hid fun W (R : Ending → World → Prop) hR => code8_any ex W (R := R) hR
    clear hl hx
    unfold Val.v at *
    dsimp only at *
    go_wp2_with fail
    go_at_call 11
    refine GG.out _ (Grow.refl _) _ ?_
    intro w1 hg1
    have BA := Lib.hid (BoxH.laid #[.int .i64 xk, .string xt, .int .u64 xb] 24 hg1)
    clear hg1
    go_wp2_with fail
    go_at_call 12
    refine RG.out _ BA.out.grow _ ?_
    intro w2 hg2
    have BB := Lib.hid (BoxH.laid #[.int .i64 xk, .string xt, .int .u64 xb] 24 (BA.out.grow.tr hg2))
    have BA := Lib.hid (BA.out.tr (hg2.al (.cells #[.int .i64 xk, .string xt, .int .u64 xb] 24)))
    clear hg2
    have a0 := BA.out.cell 0
    have a1 := BA.out.cell 1
    have a2 := BA.out.cell 2
    have b0 := BB.out.cell 0
    have b1 := BB.out.cell 1
    have b2 := BB.out.cell 2
    go_wp2_with fail
    go_at_call 13
    refine CD.out _ _ ?_
    go_wp2_with fail
    go_at_call 6
    refine LV.out _ (HT.out.gr BB.out.grow) _ ?_
    intro w9 hg9
    have G9 := Lib.hid (BB.out.grow.tr hg9)
    clear hg9
    go_wp2
    exact HR.out _ G9.out
end Go.Proofs.YtehffeglgdcogaaDoor
