import Derived.Test.YtehffeglgdcogaaChecked
import Derived.Test.YtehffeglgdcogaaBase
import Derived.Test.YtehffeglgdcogaaBits
import Derived.Test.YtehffeglgdcogaaWire4
import Derived.Lib.SlBytesConst
namespace Go.Proofs.Ytehffeglgdcogaa
open Go.RowKit

theorem str_u8 {w : World} {S : Nat → Prop} {v : Value} {l : List UInt8} (h : Rd w S 1 v l.length (U8 l)) : (convert 23 9 v).run Try.prog w = .ok (.string ⟨l.toArray⟩) w :=
  run_str _ _ 5 Try.underlying23 Try.underlying5 Try.underlying9 h

set_option maxRecDepth 100000 in
set_option maxHeartbeats 1000000 in
theorem live_any (w : World) {R : Ending → World → Prop} (hR : ∀ w', Grow w w' → R (.returned (.bool true)) w') :
    Calls Try.prog 11 #[] w R := by
  have HR := Lib.hid hR
  clear hR
  go_enter Try.func11, Try.ntmps11
  go_wp2_with fail
  refine putVarint_any [] _ 300 (fun _ => True) _ Rd.nil (by simp) (by decide) ?_
  intro r1 w1 hown1 hg1
  have hc1 := str_u8 (l := [172, 2]) (Rd.own hown1)
  have HG1 := Lib.hid hg1
  clear hown1 hg1
  have kc := fun (w : World) (C : Array Value) (n c : Nat) => Lib.run_convert_bytes_const (P := Try.prog) w 23 5 C n c Try.underlying23 Try.underlying5
  go_wp2_with fail
  have hD : Rd ((w1.alloc (.cells #[.int .u8 97, .int .u8 98] 5 (2, 3))).alloc (.cells #[.int .i64 3, .int .i64 2, .int .u64 0, .slice (some ⟨w1.heap.size, 0, none⟩) 2 2] 68)) (fun _ => True) 1 (.slice (some ⟨w1.heap.size, 0, none⟩) 2 2) 2 (U8 [97, 98]) :=
    (Rd.laid (w := w1) (size := 1) #[.int .u8 97, .int .u8 98] 5 (2, 3) 2 (by decide) rfl ((Grow.refl _).al _)).into fun _ _ => trivial
  have hF : Rd ((w1.alloc (.cells #[.int .u8 97, .int .u8 98] 5 (2, 3))).alloc (.cells #[.int .i64 3, .int .i64 2, .int .u64 0, .slice (some ⟨w1.heap.size, 0, none⟩) 2 2] 68)) (fun _ => True) 4 (.slice (some ⟨w1.heap.size + 1, 0, none⟩) 1 1) 1 ([(⟨3, 2, 0, [97, 98], .slice (some ⟨w1.heap.size, 0, none⟩) 2 2⟩ : Fld)].flatMap Fld.cells) := by
    have h := Rd.laid (w := w1.alloc (.cells #[.int .u8 97, .int .u8 98] 5 (2, 3))) (size := 4) #[.int .i64 3, .int .i64 2, .int .u64 0, .slice (some ⟨w1.heap.size, 0, none⟩) 2 2] 68 (0, 0) 1 (by decide) rfl (Grow.refl _)
    rw [World.size_alloc] at h
    exact h.into fun _ _ => trivial
  refine put_any [⟨3, 2, 0, [97, 98], .slice (some ⟨w1.heap.size, 0, none⟩) 2 2⟩] _ (fun _ => True) _ ⟨hF, fun f hf => ?_⟩ (by simp) (fun f hf => ?_) ?_
  · obtain rfl := List.mem_singleton.1 hf
    exact ⟨by simp [I64], by simp [I64], by show 0 < _; decide, hD⟩
  · obtain rfl := List.mem_singleton.1 hf
    simp
  intro r2 w2 hown2 hg2
  clear hD hF
  have hc2 := str_u8 (l := [26, 2, 97, 98]) (Rd.own hown2)
  have HG2 := Lib.hid hg2
  clear hown2 hg2 hc1 kc
  go_wp2_with fail
  exact HR.out _ (((HG1.out.al _).al _).tr HG2.out)
end Go.Proofs.Ytehffeglgdcogaa
