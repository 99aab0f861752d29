/-
  Chapter 25's laws: their own helpers, the example, Edges.
-/
import Derived.Test.YtjcgkhcbdbbdkaaChecked
import Derived.Test.YtjcgkhcbdbbdkaaRngL
namespace Go.Proofs.Ytjcgkhcbdbbdkaa
open Go.RowKit B

theorem code25_any (n : Int) (w : World) {R : Ending → World → Prop} (hR : R (.returned (.int .i64 n)) w) :
    Calls Try.prog 20 #[.int .i64 n] w R := by
  go_enter Try.func20, Try.ntmps20
  go_wp2
  exact hR

set_option maxRecDepth 100000 in
set_option maxHeartbeats 1000000 in
theorem spot25_any (x y : Int) (w : World) {R : Ending → World → Prop} (hR : ∀ w', Grow w w' → R (.returned (.agg #[.int .i64 x, .int .u64 0, .int .u64 1, .int .i64 y, .int .u64 0, .int .u64 1])) w') :
    Calls Try.prog 32 #[.int .i64 x, .int .i64 y] w R := by
  have HR := Lib.hid hR
  clear hR
  go_enter Try.func32, Try.ntmps32
  go_wp2
  exact bodyPost_ret (v := .agg #[.int .i64 x, .int .u64 0, .int .u64 1, .int .i64 y, .int .u64 0, .int .u64 1]) (by simp [results, Try.f32, go_sem]) rfl (HR.out _ ((Grow.refl w).al _))

def ex25 : List Spot := [⟨⟨0, 0, 1⟩, ⟨0, 0, 1⟩⟩, ⟨⟨4, 0, 1⟩, ⟨0, 0, 1⟩⟩, ⟨⟨4, 0, 1⟩, ⟨2, 0, 1⟩⟩, ⟨⟨2, 0, 1⟩, ⟨4, 0, 1⟩⟩, ⟨⟨0, 0, 1⟩, ⟨4, 0, 1⟩⟩]
deriving instance DecidableEq for Fr
deriving instance DecidableEq for Spot
theorem ringR_ex : ringR [⟨0, 0⟩, ⟨6, 0⟩, ⟨0, 6⟩] 0 4 = ex25 := by decide +kernel
theorem lineE_ex : lineE [⟨0, 0⟩, ⟨6, 0⟩, ⟨0, 6⟩] 0 4 = 0 := by decide +kernel

set_option maxRecDepth 100000 in
set_option maxHeartbeats 4000000 in
theorem live25_any (w : World) {R : Ending → World → Prop} (hR : ∀ w', Grow w w' → R (.returned (.bool true)) w') :
    Calls Try.prog 17 #[] w R := by
  have HR := Lib.hid hR
  clear hR
  have HL := Lib.hid ((Rd.lit w #[.int .i64 0, .int .i64 0, .int .i64 6, .int .i64 0, .int .i64 0, .int .i64 6] 23 3 (by decide) rfl : Rd _ _ 2 _ ([⟨0, 0⟩, ⟨6, 0⟩, ⟨0, 6⟩] : List Pt).length (Pts [⟨0, 0⟩, ⟨6, 0⟩, ⟨0, 6⟩])))
  have CC := Lib.hid fun W v S h (R : Ending → World → Prop) hR => clip25_any [⟨0, 0⟩, ⟨6, 0⟩, ⟨0, 6⟩] 0 4 v S W h (by decide) (by intro p hp; simp only [List.mem_cons, List.not_mem_nil, or_false] at hp; rcases hp with rfl | rfl | rfl <;> (unfold Pt.ok; decide)) (by unfold I64; decide) (by unfold I64; decide) (R := R) hR
  rw [ringR_ex, lineE_ex] at CC
  have G0 := Lib.hid ((Grow.refl w).al (.cells #[.int .i64 0, .int .i64 0, .int .i64 6, .int .i64 0, .int .i64 0, .int .i64 6] 23))
  go_enter Try.func17, Try.ntmps17
  go_wp2_with fail
  go_at_call 18
  refine CC.out _ _ _ HL.out _ ?_
  intro r w1 hO1 hg1
  have G1 := Lib.hid (G0.out.tr hg1)
  have hO1 := own_eq hO1 (show ex25.length = 5 from rfl) rfl
  obtain ⟨A, c, rfl⟩ := own_slice hO1
  have HD := Rd.own_lt hO1
  obtain ⟨_, A', c', hv, p1, p2, p3, p4⟩ := HD
  injection hv with e1 e2 e3
  subst e1 e3
  obtain ⟨b, o, rfl, hS, hc⟩ := p4 (by decide)
  have E1 : Hid (∀ W, Grow w1 W → W.cell? ⟨b, o + 6, none⟩ = some (.int .i64 4) ∧ W.cell? ⟨b, o + 7, none⟩ = some (.int .u64 0) ∧ W.cell? ⟨b, o + 8, none⟩ = some (.int .u64 1) ∧ W.cell? ⟨b, o + 9, none⟩ = some (.int .i64 0) ∧ W.cell? ⟨b, o + 10, none⟩ = some (.int .u64 0) ∧ W.cell? ⟨b, o + 11, none⟩ = some (.int .u64 1)) := fun W h => ⟨flat_cells (l := ex25) Spot.cells_len h hS hc (i := 1) (by decide) 0 _ rfl, flat_cells (l := ex25) Spot.cells_len h hS hc (i := 1) (by decide) 1 _ rfl, flat_cells (l := ex25) Spot.cells_len h hS hc (i := 1) (by decide) 2 _ rfl, flat_cells (l := ex25) Spot.cells_len h hS hc (i := 1) (by decide) 3 _ rfl, flat_cells (l := ex25) Spot.cells_len h hS hc (i := 1) (by decide) 4 _ rfl, flat_cells (l := ex25) Spot.cells_len h hS hc (i := 1) (by decide) 5 _ rfl⟩
  have E2 : Hid (∀ W, Grow w1 W → W.cell? ⟨b, o + 12, none⟩ = some (.int .i64 4) ∧ W.cell? ⟨b, o + 13, none⟩ = some (.int .u64 0) ∧ W.cell? ⟨b, o + 14, none⟩ = some (.int .u64 1) ∧ W.cell? ⟨b, o + 15, none⟩ = some (.int .i64 2) ∧ W.cell? ⟨b, o + 16, none⟩ = some (.int .u64 0) ∧ W.cell? ⟨b, o + 17, none⟩ = some (.int .u64 1)) := fun W h => ⟨flat_cells (l := ex25) Spot.cells_len h hS hc (i := 2) (by decide) 0 _ rfl, flat_cells (l := ex25) Spot.cells_len h hS hc (i := 2) (by decide) 1 _ rfl, flat_cells (l := ex25) Spot.cells_len h hS hc (i := 2) (by decide) 2 _ rfl, flat_cells (l := ex25) Spot.cells_len h hS hc (i := 2) (by decide) 3 _ rfl, flat_cells (l := ex25) Spot.cells_len h hS hc (i := 2) (by decide) 4 _ rfl, flat_cells (l := ex25) Spot.cells_len h hS hc (i := 2) (by decide) 5 _ rfl⟩
  have E3 : Hid (∀ W, Grow w1 W → W.cell? ⟨b, o + 18, none⟩ = some (.int .i64 2) ∧ W.cell? ⟨b, o + 19, none⟩ = some (.int .u64 0) ∧ W.cell? ⟨b, o + 20, none⟩ = some (.int .u64 1) ∧ W.cell? ⟨b, o + 21, none⟩ = some (.int .i64 4) ∧ W.cell? ⟨b, o + 22, none⟩ = some (.int .u64 0) ∧ W.cell? ⟨b, o + 23, none⟩ = some (.int .u64 1)) := fun W h => ⟨flat_cells (l := ex25) Spot.cells_len h hS hc (i := 3) (by decide) 0 _ rfl, flat_cells (l := ex25) Spot.cells_len h hS hc (i := 3) (by decide) 1 _ rfl, flat_cells (l := ex25) Spot.cells_len h hS hc (i := 3) (by decide) 2 _ rfl, flat_cells (l := ex25) Spot.cells_len h hS hc (i := 3) (by decide) 3 _ rfl, flat_cells (l := ex25) Spot.cells_len h hS hc (i := 3) (by decide) 4 _ rfl, flat_cells (l := ex25) Spot.cells_len h hS hc (i := 3) (by decide) 5 _ rfl⟩
  clear hc p4 p3 hO1 hg1
  unfold maxLen at p2
  go_wp2_with fail
  refine wp_region_lexT (Grow w1) ((Grow.refl w1).dr) 27 [0, 1, 2, 3, 4, 5, 6, 7, 8, 9, 10, 11, 12, 13, 14, 15, 16, 17, 18, 19, 20, 21, 22, 23, 24, 25, 26] (by kernel_rfl) (by kernel_rfl) (by intro c a d v w h; cases d <;> exact h) ?_
  have G2 := Lib.hid ((Grow.refl w1).dr)
  iterate 1 (apply lext_take; exact rfl; exact rfl; (intro W hW; (try clear hW); go_simp; with_reducible rfl); try simp only [Act.put, List.setIfInBounds_toArray, List.set_cons_zero, List.set_cons_succ])
  apply lext_turn; exact rfl; exact rfl; exact rfl; intro K hK; go_simp; go_at_call 20; refine code25_any _ _ ?_; refine hK.out _ _ G2.out ?_; clear hK
  try simp only [Act.put, List.setIfInBounds_toArray, List.set_cons_zero, List.set_cons_succ]
  iterate 10 (apply lext_take; exact rfl; exact rfl; (intro W hW; obtain ⟨y0, y1, y2, y3, y4, y5⟩ := E1.out W hW; (try clear hW); go_simp; with_reducible rfl); try simp only [Act.put, List.setIfInBounds_toArray, List.set_cons_zero, List.set_cons_succ])
  apply lext_turn; exact rfl; exact rfl; exact rfl; intro K hK; go_simp; go_at_call 32; refine spot25_any _ _ _ ?_; intro w5 hg5; have G2 := Lib.hid (G2.out.tr hg5); refine hK.out _ _ G2.out ?_; clear hK hg5
  try simp only [Act.put, List.setIfInBounds_toArray, List.set_cons_zero, List.set_cons_succ]
  iterate 6 (apply lext_take; exact rfl; exact rfl; (intro W hW; obtain ⟨y0, y1, y2, y3, y4, y5⟩ := E2.out W hW; (try clear hW); go_simp; with_reducible rfl); try simp only [Act.put, List.setIfInBounds_toArray, List.set_cons_zero, List.set_cons_succ])
  apply lext_turn; exact rfl; exact rfl; exact rfl; intro K hK; go_simp; go_at_call 32; refine spot25_any _ _ _ ?_; intro w5 hg5; have G2 := Lib.hid (G2.out.tr hg5); refine hK.out _ _ G2.out ?_; clear hK hg5
  try simp only [Act.put, List.setIfInBounds_toArray, List.set_cons_zero, List.set_cons_succ]
  iterate 6 (apply lext_take; exact rfl; exact rfl; (intro W hW; obtain ⟨y0, y1, y2, y3, y4, y5⟩ := E3.out W hW; (try clear hW); go_simp; with_reducible rfl); try simp only [Act.put, List.setIfInBounds_toArray, List.set_cons_zero, List.set_cons_succ])
  apply lext_turn; exact rfl; exact rfl; exact rfl; intro K hK; go_simp; go_at_call 32; refine spot25_any _ _ _ ?_; intro w5 hg5; have G2 := Lib.hid (G2.out.tr hg5); refine hK.out _ _ G2.out ?_; clear hK hg5
  try simp only [Act.put, List.setIfInBounds_toArray, List.set_cons_zero, List.set_cons_succ]
  refine lext_nil ?_
  simp only [List.drop_succ_cons, List.drop_zero]
  go_wp2
  exact HR.out _ (G1.out.tr G2.out)
end Go.Proofs.Ytjcgkhcbdbbdkaa
