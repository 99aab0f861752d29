/-
  Values of attributes: the example of the laws, and the law on orders.
-/
import Derived.Test.YtehffeglgdcogaaDoorChecked
import Derived.Test.YtehffeglgdcogaaDoorVPut
import Derived.Test.YtehffeglgdcogaaDoorOrdL
namespace Go.Proofs.YtehffeglgdcogaaDoor
open Go.RowKit B

theorem str_u8 {w : World} {S : Nat → Prop} {v : Value} {l : List UInt8} (h : Rd w S 1 v l.length (U8 l)) : (convert 29 9 v).run Tryd.prog w = .ok (.string ⟨l.toArray⟩) w :=
  run_str _ _ 5 Tryd.underlying29 Tryd.underlying5 Tryd.underlying9 h
theorem put_ex1 : putV ⟨6, ⟨#[]⟩, 18446744073709551615⟩ = [48, 1] := by decide +kernel
theorem put_ex2 : putV ⟨1, ⟨#[97]⟩, 0⟩ = [10, 1, 97] := by decide +kernel

set_option maxRecDepth 100000 in
set_option maxHeartbeats 1000000 in
theorem live8_any (w : World) (hT : Tabs w) {R : Ending → World → Prop} (hR : ∀ w', Grow w w' → R (.returned (.bool true)) w') :
    Calls Tryd.prog 6 #[] w R := by
  have HR := Lib.hid hR
  have HT := Lib.hid hT
  have P1 := Lib.hid fun W (h : Tabs W) (R : Ending → World → Prop) hR => vput_any ⟨6, ⟨#[]⟩, 18446744073709551615⟩ (by unfold I64; decide) (by unfold U64; decide) (by decide) W h (R := R) hR
  have P2 := Lib.hid fun W (h : Tabs W) (R : Ending → World → Prop) hR => vput_any ⟨1, ⟨#[97]⟩, 0⟩ (by unfold I64; decide) (by unfold U64; decide) (by decide) W h (R := R) hR
  rw [put_ex1] at P1
  rw [put_ex2] at P2
  unfold Val.v at P1 P2
  dsimp only at P1 P2
  clear hR hT
  go_enter Tryd.func6, Tryd.ntmps6
  go_wp2_with fail
  go_at_call 14
  refine P1.out _ HT.out _ ?_
  intro r1 w1 hO1 hg1
  have G1 := Lib.hid hg1
  have hc1 := str_u8 (l := [48, 1]) (Rd.own hO1)
  clear hO1 hg1
  go_wp2_with fail
  go_at_call 14
  refine P2.out _ (HT.out.gr G1.out) _ ?_
  intro r2 w2 hO2 hg2
  have G2 := Lib.hid (G1.out.tr hg2)
  have hc2 := str_u8 (l := [10, 1, 97]) (Rd.own hO2)
  clear hO2 hg2 hc1
  go_wp2
  exact HR.out _ G2.out
end Go.Proofs.YtehffeglgdcogaaDoor
