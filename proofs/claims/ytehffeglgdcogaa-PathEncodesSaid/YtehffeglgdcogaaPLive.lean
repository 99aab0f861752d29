import Derived.Test.YtehffeglgdcogaaChecked
import Derived.Test.YtehffeglgdcogaaBox
import Derived.Test.YtehffeglgdcogaaPRowD
import Derived.Test.YtehffeglgdcogaaPRight
import Derived.Test.YtehffeglgdcogaaPPut
import Derived.Test.YtehffeglgdcogaaPack
namespace Go.Proofs.Ytehffeglgdcogaa
open Go.RowKit B

set_option maxRecDepth 100000 in
set_option maxHeartbeats 2000000 in
theorem encode1_any (p : Pt) (a v : Value) (S S' : Nat → Prop) (w : World) (ha : Rd w S 1 a 1 [v]) (hA : Rd w S' 2 v 1 (Pts [p])) (hn : Near p) {R : Ending → World → Prop}
    (hR : ∀ r w', w'.ownsRow w.heap.size 78 1 r 3 (U32 [9, zig p.x, zig p.y]) → Grow w w' → R (.returned (.tuple #[r, .int .i64 0])) w') :
    Calls Try.prog 38 #[.int .i64 1, a] w R := by
  have HR := Lib.hid hR
  clear hR
  have hpr : pright 1 [⟨v, [p]⟩] = 0 := by
    have : offsR [⟨v, [p]⟩] = false := by
      obtain ⟨h1, h2⟩ := hn
      simp [offsR, offs, Pt.off, inm]
      omega
    simp [pright, this]
  have HA := Lib.hid ha
  have HV := Lib.hid hA
  have HN := Lib.hid hn
  have HPR := Lib.hid hpr
  clear hpr hn
  obtain ⟨_, A, c, rfl, h1, h2, -, h4⟩ := ha
  unfold maxLen at h2
  obtain ⟨b, o, rfl, -, hc⟩ := h4 (by omega)
  have c0 := hc 0 v rfl
  have C0 : Hid (∀ W, Grow w W → W.cell? ⟨b, o, none⟩ = some v) := fun W hW => by
    have := (hW.cell (p := ⟨b, o + 0, none⟩) (World.block_lt_of_cell? w _ c0)).trans c0
    exact this
  clear hc h4 c0
  obtain ⟨_, V, cv, rfl, x1, x2, -, -⟩ := hA
  unfold maxLen at x2
  go_enter Try.func38, Try.ntmps38
  go_wp2_with fail
  refine pathRight_any 1 _ [⟨.slice V 1 cv, [p]⟩] S S' w HA.out (fun r hr => by rw [List.mem_singleton.1 hr]; exact HV.out) ?_
  intro w1 hg1
  rw [HPR.out]
  have G1 := Lib.hid hg1
  clear hg1
  have BX := Lib.hid (BoxH.laid #[.slice none 0 0, .int .i64 0, .int .i64 0] 94 (Grow.refl w1))
  have d0 := C0.out _ (G1.out.al (.cells #[.slice none 0 0, .int .i64 0, .int .i64 0] 94))
  go_wp2_with fail
  refine wput_any 1 [p] (.slice V 1 cv) w1.heap.size (.slice none 0 0) [] ⟨0, 0⟩ w1.heap.size w1 _ BX.out (World.ownsRow_nil _ _ _ _) (by simp [Value.ownBlock]) ⟨Nat.le_refl _, by rw [World.size_alloc]; omega⟩ (HV.out.gr (by decide) G1.out |>.up G1.out.size) (by decide) (by simp) (by simp) (fun q hq => by rw [List.mem_singleton.1 hq]; exact HN.out) ⟨⟨by decide, by decide⟩, by decide, by decide⟩ ?_
  intro lv' w2 hB2 hO2 hne2 hg2
  have y0 := hB2.cell 0
  have O2 := Lib.hid hO2
  have B2 := Lib.hid hB2
  clear hB2 hO2 d0
  go_wp2
  refine HR.out lv' w2 (own_base (own_eq O2.out rfl ?_) G1.out.size) (G1.out.tr hg2)
  simp [putPts, U32]

set_option maxRecDepth 100000 in
set_option maxHeartbeats 400000 in
theorem code9_any (n : Int) (w : World) {R : Ending → World → Prop} (hR : R (.returned (.int .i64 n)) w) :
    Calls Try.prog 37 #[.int .i64 n] w R := by
  have HR := Lib.hid hR
  clear hR
  go_enter Try.func37, Try.ntmps37
  go_wp2
  exact HR.out

set_option maxRecDepth 100000 in
set_option maxHeartbeats 1000000 in
theorem live9_any (w : World) {R : Ending → World → Prop} (hR : ∀ w', Grow w w' → R (.returned (.bool true)) w') :
    Calls Try.prog 27 #[] w R := by
  have HR := Lib.hid hR
  clear hR
  go_enter Try.func27, Try.ntmps27
  go_wp2_with fail
  have r1 : Hid (Rd (w.alloc (.cells #[.int .i64 25, .int .i64 17] 77)) (fun b => b = w.heap.size) 2 (.slice (some ⟨w.heap.size, 0, none⟩) 1 1) 1 (Pts [⟨25, 17⟩])) := Rd.lit w #[.int .i64 25, .int .i64 17] 77 1 (by decide) rfl
  have r2 : Hid (Rd ((w.alloc (.cells #[.int .i64 25, .int .i64 17] 77)).alloc (.cells #[.slice (some ⟨w.heap.size, 0, none⟩) 1 1] 75)) (fun b => b = w.heap.size + 1) 1 (.slice (some ⟨w.heap.size + 1, 0, none⟩) 1 1) 1 [.slice (some ⟨w.heap.size, 0, none⟩) 1 1]) := by
    have := Rd.lit (size := 1) (w.alloc (.cells #[.int .i64 25, .int .i64 17] 77)) #[.slice (some ⟨w.heap.size, 0, none⟩) 1 1] 75 1 (by decide) rfl
    rw [World.size_alloc] at this
    exact this
  refine encode1_any ⟨25, 17⟩ _ (.slice (some ⟨w.heap.size, 0, none⟩) 1 1) _ _ _ r2.out (r1.out.al (by decide) _) ⟨⟨by decide, by decide⟩, by decide, by decide⟩ ?_
  intro r w1 hown1 hg1
  have G1 := Lib.hid ((((Grow.refl w).al _).al _).tr hg1)
  have O1 := Lib.hid (own_eq hown1 rfl (show U32 [9, zig 25, zig 17] = U32 [9, 50, 34] from rfl))
  clear hown1 hg1
  go_wp2_with fail
  refine code9_any _ _ ?_
  go_wp2_with fail
  refine sameInts_any r _ [9, 50, 34] [9, 50, 34] _ (fun b => b = w1.heap.size) _ (Rd.own (O1.out.alloc _)) (Rd.laid (w := w1) (size := 1) #[.int .u32 9, .int .u32 50, .int .u32 34] 78 (0, 0) 3 (by decide) rfl (Grow.refl _)) ?_
  intro w2 hg2
  go_wp2
  exact HR.out _ ((G1.out.al _).tr hg2)
end Go.Proofs.Ytehffeglgdcogaa
