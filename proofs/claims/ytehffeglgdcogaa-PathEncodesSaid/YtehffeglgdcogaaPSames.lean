import Derived.Test.YtehffeglgdcogaaChecked
import Derived.Test.YtehffeglgdcogaaPSame
import Derived.Test.YtehffeglgdcogaaPLive
namespace Go.Proofs.Ytehffeglgdcogaa
open Go.RowKit B

set_option maxRecDepth 100000 in
set_option maxHeartbeats 2000000 in
theorem pathSames_walk (A B : List PRow) (a b : Value) (S T S' T' : Nat → Prop) (w : World) (ha : Rd w S 1 a A.length (A.map PRow.v)) (hA : ∀ r ∈ A, r.rd w S') (hb : Rd w T 1 b B.length (B.map PRow.v)) (hB : ∀ r ∈ B, r.rd w T')
    {R : Ending → World → Prop} (hR : ∀ w', Grow w w' → R (.returned (.bool true)) w') :
    Calls Try.prog 5 #[a, b] w R := by
  have HR := Lib.hid hR
  have HA0 := Lib.hid ha
  have HB0 := Lib.hid hb
  have HA := Lib.hid hA
  have HB := Lib.hid hB
  clear hR ha hb hA hB
  go_enter Try.func5, Try.ntmps5
  go_wp2_with fail
  refine much_any a A _ _ w HA0.out HA.out ?_
  intro b1 w1 hg1
  have G1 := Lib.hid hg1
  clear hg1
  cases b1 with
  | true =>
    go_wp2_with fail
    refine live9_any _ ?_
    intro w9 hg9
    go_wp2
    exact HR.out _ (G1.out.tr hg9)
  | false =>
    go_wp2_with fail
    refine much_any b B _ _ w1 (HB0.out.gr2 (by decide) G1.out) (fun r hr => (HB.out r hr).gr2 (by decide) G1.out) ?_
    intro b2 w2 hg2
    have G2 := Lib.hid (G1.out.tr hg2)
    clear hg2
    cases b2 with
    | true =>
      go_wp2_with fail
      refine live9_any _ ?_
      intro w9 hg9
      go_wp2
      exact HR.out _ (G2.out.tr hg9)
    | false =>
      go_wp2_with fail
      refine pathSame_any a b A B _ _ _ _ w2 (HA0.out.gr2 (by decide) G2.out) (fun r hr => (HA.out r hr).gr2 (by decide) G2.out) (HB0.out.gr2 (by decide) G2.out) (fun r hr => (HB.out r hr).gr2 (by decide) G2.out) ?_
      intro w3 hg3
      have G3 := Lib.hid (G2.out.tr hg3)
      clear hg3
      go_wp2_with fail
      refine rsame9_any a b A B _ _ _ _ w3 (HA0.out.gr2 (by decide) G3.out) (fun r hr => (HA.out r hr).gr2 (by decide) G3.out) (HB0.out.gr2 (by decide) G3.out) (fun r hr => (HB.out r hr).gr2 (by decide) G3.out) ?_
      intro w4 hg4
      have G4 := Lib.hid (G3.out.tr hg4)
      clear hg4
      generalize decide (A.map PRow.l = B.map PRow.l) = q
      go_wp2_with fail
      refine pathSame_any a a A A _ _ _ _ w4 (HA0.out.gr2 (by decide) G4.out) (fun r hr => (HA.out r hr).gr2 (by decide) G4.out) (HA0.out.gr2 (by decide) G4.out) (fun r hr => (HA.out r hr).gr2 (by decide) G4.out) ?_
      intro w5 hg5
      rw [decide_eq_true rfl]
      have G5 := Lib.hid (G4.out.tr hg5)
      clear hg5
      go_wp2_with fail
      refine live9_any _ ?_
      intro w9 hg9
      go_wp2
      exact HR.out _ (G5.out.tr hg9)
end Go.Proofs.Ytehffeglgdcogaa
