/-
  LineSegments, walked.
-/
import Derived.Test.YtjcgkhcbdbbdkaaChecked
import Derived.Test.YtjcgkhcbdbbdkaaRL4
import Derived.Test.YtjcgkhcbdbbdkaaRL5
namespace Go.Proofs.Ytjcgkhcbdbbdkaa
open Go.RowKit B

theorem Fr.right_ok {f : Fr} (h : f.right = true) : f.ok := by
  obtain ⟨h1, h2, h3, h4, -⟩ := Fr.right_iff h
  exact ⟨by omega, by omega, by omega, by omega⟩
theorem Spot.rt_ok {s : Spot} (h : s.rt) : s.ok := ⟨Fr.right_ok h.1, Fr.right_ok h.2⟩

set_option maxRecDepth 100000 in
set_option maxHeartbeats 8000000 in
theorem lineSegments_walk (p q : Pt) (lo hi : Int) (w : World) (hp : p.ok) (hq : q.ok) (hlo : I64 lo) (hhi : I64 hi) {R : Ending → World → Prop}
    (hR : ∀ w', Grow w w' → R (.returned (.bool true)) w') :
    Calls Try.prog 3 #[.agg p.cells.toArray, .agg q.cells.toArray, .int .i64 lo, .int .i64 hi] w R := by
  have HR := Lib.hid hR
  clear hR
  obtain ⟨sa, sb, ok, hs⟩ : ∃ a b ok, segT p q lo hi = (a, b, ok) := ⟨_, _, _, rfl⟩
  obtain ⟨l1, l2, l3⟩ := seg_law hs
  have L2 := Lib.hid l2
  have L3 := Lib.hid l3
  have SG := Lib.hid fun W (R : Ending → World → Prop) hR => segment_any p q lo hi W (R := R) hR
  have SQ := Lib.hid fun W (R : Ending → World → Prop) hR => segment_q p q lo hi W hp hq hlo hhi (R := R) hR
  have I1 := Lib.hid fun W (R : Ending → World → Prop) hR => insideL_any p lo hi W (R := R) hR
  have I2 := Lib.hid fun W (R : Ending → World → Prop) hR => inside_any p lo hi W (R := R) hR
  rw [hs] at SG
  rw [l1] at SQ
  generalize (segQ p q lo hi).1 = qa at *
  generalize (segQ p q lo hi).2.1 = qb at *
  generalize p.inside lo hi = bi at *
  clear hs l1 l2 l3 hp hq hlo hhi
  obtain ⟨px, py⟩ := p
  obtain ⟨qx, qy⟩ := q
  unfold Pt.cells at *
  dsimp only at SG SQ I1 I2 ⊢
  obtain ⟨wa, hwa⟩ : ∃ wa, wa = (w.alloc (.cells #[.int .i64 px, .int .i64 py] 23)).alloc (.cells #[.int .i64 qx, .int .i64 qy] 23) := ⟨_, rfl⟩
  have GW : Hid (Grow w wa) := by subst hwa; exact ((Grow.refl w).al _).al _
  have FP : Hid (wa.heap[w.heap.size]? = some (.cells #[.int .i64 px, .int .i64 py] 23 (0, 0))) := by
    subst hwa
    exact blk_al w _ _ ((Grow.refl _).al _)
  have FQ : Hid (wa.heap[w.heap.size + 1]? = some (.cells #[.int .i64 qx, .int .i64 qy] 23 (0, 0))) := by
    subst hwa
    have := blk_al (w.alloc (.cells #[.int .i64 px, .int .i64 py] 23)) #[.int .i64 qx, .int .i64 qy] 23 (Grow.refl _)
    rwa [World.size_alloc] at this
  have z0 := cell_of_row _ w.heap.size 0 _ _ (0, 0) FP.out
  have z1 := cell_of_row _ w.heap.size 1 _ _ (0, 0) FP.out
  have y0 := cell_of_row _ (w.heap.size + 1) 0 _ _ (0, 0) FQ.out
  have y1 := cell_of_row _ (w.heap.size + 1) 1 _ _ (0, 0) FQ.out
  go_enter Try.func3, Try.ntmps3
  go_wp2_with fail
  rw [← hwa]
  clear hwa
  go_wp2_with fail
  go_at_call 11
  refine SG.out _ _ ?_
  intro a b ok' w1 hx hg1
  rw [Prod.mk.injEq, Prod.mk.injEq] at hx
  obtain ⟨rfl, rfl, rfl⟩ := hx
  have FP := Lib.hid (grow_blk hg1 FP.out)
  have FQ := Lib.hid (grow_blk hg1 FQ.out)
  have GW := Lib.hid (GW.out.tr hg1)
  clear hg1 z0 z1 y0 y1 SG
  obtain ⟨⟨ta, tb, tc⟩, ⟨td, te, tf⟩⟩ := sb
  obtain ⟨⟨sa, sb, sc⟩, ⟨sd, se, sf⟩⟩ := sa
  unfold Spot.cells
  dsimp only at *
  go_upto_region 2 with fail
  have GV : Hid (Grow w1 ((w1.alloc (.cells #[.int .i64 sa, .int .u64 (sb : Nat), .int .u64 (sc : Nat), .int .i64 sd, .int .u64 (se : Nat), .int .u64 (sf : Nat)] 28)).alloc (.cells #[.int .i64 ta, .int .u64 (tb : Nat), .int .u64 (tc : Nat), .int .i64 td, .int .u64 (te : Nat), .int .u64 (tf : Nat)] 28))) := ((Grow.refl w1).al _).al _
  have FS : Hid (((w1.alloc (.cells #[.int .i64 sa, .int .u64 (sb : Nat), .int .u64 (sc : Nat), .int .i64 sd, .int .u64 (se : Nat), .int .u64 (sf : Nat)] 28)).alloc (.cells #[.int .i64 ta, .int .u64 (tb : Nat), .int .u64 (tc : Nat), .int .i64 td, .int .u64 (te : Nat), .int .u64 (tf : Nat)] 28)).heap[w1.heap.size]? = some (.cells #[.int .i64 sa, .int .u64 (sb : Nat), .int .u64 (sc : Nat), .int .i64 sd, .int .u64 (se : Nat), .int .u64 (sf : Nat)] 28 (0, 0))) := blk_al w1 _ _ ((Grow.refl _).al _)
  have FT : Hid (((w1.alloc (.cells #[.int .i64 sa, .int .u64 (sb : Nat), .int .u64 (sc : Nat), .int .i64 sd, .int .u64 (se : Nat), .int .u64 (sf : Nat)] 28)).alloc (.cells #[.int .i64 ta, .int .u64 (tb : Nat), .int .u64 (tc : Nat), .int .i64 td, .int .u64 (te : Nat), .int .u64 (tf : Nat)] 28)).heap[w1.heap.size + 1]? = some (.cells #[.int .i64 ta, .int .u64 (tb : Nat), .int .u64 (tc : Nat), .int .i64 td, .int .u64 (te : Nat), .int .u64 (tf : Nat)] 28 (0, 0))) := by
    have := blk_al (w1.alloc (.cells #[.int .i64 sa, .int .u64 (sb : Nat), .int .u64 (sc : Nat), .int .i64 sd, .int .u64 (se : Nat), .int .u64 (sf : Nat)] 28)) #[.int .i64 ta, .int .u64 (tb : Nat), .int .u64 (tc : Nat), .int .i64 td, .int .u64 (te : Nat), .int .u64 (tf : Nat)] 28 (Grow.refl _)
    rwa [World.size_alloc] at this
  generalize (w1.alloc (.cells #[.int .i64 sa, .int .u64 (sb : Nat), .int .u64 (sc : Nat), .int .i64 sd, .int .u64 (se : Nat), .int .u64 (sf : Nat)] 28)).alloc (.cells #[.int .i64 ta, .int .u64 (tb : Nat), .int .u64 (tc : Nat), .int .i64 td, .int .u64 (te : Nat), .int .u64 (tf : Nat)] 28) = w2 at *
  generalize w1.heap.size + 1 = bt at *
  obtain ⟨bs, hbs⟩ : ∃ x, x = w1.heap.size := ⟨_, rfl⟩
  rw [← hbs] at FS ⊢
  clear hbs
  have FP := Lib.hid (grow_blk GV.out FP.out)
  have FQ := Lib.hid (grow_blk GV.out FQ.out)
  have GW := Lib.hid (GW.out.tr GV.out)
  clear GV
  have z0 := cell_of_row _ w.heap.size 0 _ _ (0, 0) FP.out
  have z1 := cell_of_row _ w.heap.size 1 _ _ (0, 0) FP.out
  have y0 := cell_of_row _ (w.heap.size + 1) 0 _ _ (0, 0) FQ.out
  have y1 := cell_of_row _ (w.heap.size + 1) 1 _ _ (0, 0) FQ.out
  go_wp2_with fail
  go_at_call 12
  refine SQ.out _ _ ?_
  intro ra rb ok3 w3 hg3 hok hres
  subst hok
  have HRES := Lib.hid hres
  have FP := Lib.hid (grow_blk hg3 FP.out)
  have FS := Lib.hid (grow_blk hg3 FS.out)
  have FT := Lib.hid (grow_blk hg3 FT.out)
  have GW := Lib.hid (GW.out.tr hg3)
  clear hg3 hres z0 z1 y0 y1 SQ FQ
  have IA := Lib.hid fun W S k (h1 : (⟨⟨sa, sb, sc⟩, ⟨sd, se, sf⟩⟩ : Spot).rt) (h2 : ra.rd W S k) (h3 : k ≤ 10000) (h4 : (⟨⟨sa, sb, sc⟩, ⟨sd, se, sf⟩⟩ : Spot).pq = ra.q) (R : Ending → World → Prop) hR => is24_any ⟨⟨sa, sb, sc⟩, ⟨sd, se, sf⟩⟩ ra k S W (Spot.rt_ok h1) h1 h2 h3 h4 (R := R) hR
  have IB := Lib.hid fun W S k (h1 : (⟨⟨ta, tb, tc⟩, ⟨td, te, tf⟩⟩ : Spot).rt) (h2 : rb.rd W S k) (h3 : k ≤ 10000) (h4 : (⟨⟨ta, tb, tc⟩, ⟨td, te, tf⟩⟩ : Spot).pq = rb.q) (R : Ending → World → Prop) hR => is24_any ⟨⟨ta, tb, tc⟩, ⟨td, te, tf⟩⟩ rb k S W (Spot.rt_ok h1) h1 h2 h3 h4 (R := R) hR
  obtain ⟨⟨⟨a1, a2, a3, a4⟩, ⟨a5, a6, a7, a8⟩, aq⟩, ⟨⟨b1, b2, b3, b4⟩, ⟨b5, b6, b7, b8⟩, bq⟩⟩ := ra
  obtain ⟨⟨⟨c1, c2, c3, c4⟩, ⟨c5, c6, c7, c8⟩, cq⟩, ⟨⟨d1, d2, d3, d4⟩, ⟨d5, d6, d7, d8⟩, dq⟩⟩ := rb
  unfold PV.cells
  unfold PV.cells Spot.cells at IA IB
  dsimp only at IA IB ⊢
  go_upto_region 3 with fail
  have GV : Hid (Grow w3 ((w3.alloc (.cells #[.bool a1, .slice a2 a3 a4, .bool a5, .slice a6 a7 a8, .bool b1, .slice b2 b3 b4, .bool b5, .slice b6 b7 b8] 37)).alloc (.cells #[.bool c1, .slice c2 c3 c4, .bool c5, .slice c6 c7 c8, .bool d1, .slice d2 d3 d4, .bool d5, .slice d6 d7 d8] 37))) := ((Grow.refl w3).al _).al _
  have FA : Hid (((w3.alloc (.cells #[.bool a1, .slice a2 a3 a4, .bool a5, .slice a6 a7 a8, .bool b1, .slice b2 b3 b4, .bool b5, .slice b6 b7 b8] 37)).alloc (.cells #[.bool c1, .slice c2 c3 c4, .bool c5, .slice c6 c7 c8, .bool d1, .slice d2 d3 d4, .bool d5, .slice d6 d7 d8] 37)).heap[w3.heap.size]? = some (.cells #[.bool a1, .slice a2 a3 a4, .bool a5, .slice a6 a7 a8, .bool b1, .slice b2 b3 b4, .bool b5, .slice b6 b7 b8] 37 (0, 0))) := blk_al w3 _ _ ((Grow.refl _).al _)
  have FB : Hid (((w3.alloc (.cells #[.bool a1, .slice a2 a3 a4, .bool a5, .slice a6 a7 a8, .bool b1, .slice b2 b3 b4, .bool b5, .slice b6 b7 b8] 37)).alloc (.cells #[.bool c1, .slice c2 c3 c4, .bool c5, .slice c6 c7 c8, .bool d1, .slice d2 d3 d4, .bool d5, .slice d6 d7 d8] 37)).heap[w3.heap.size + 1]? = some (.cells #[.bool c1, .slice c2 c3 c4, .bool c5, .slice c6 c7 c8, .bool d1, .slice d2 d3 d4, .bool d5, .slice d6 d7 d8] 37 (0, 0))) := by
    have := blk_al (w3.alloc (.cells #[.bool a1, .slice a2 a3 a4, .bool a5, .slice a6 a7 a8, .bool b1, .slice b2 b3 b4, .bool b5, .slice b6 b7 b8] 37)) #[.bool c1, .slice c2 c3 c4, .bool c5, .slice c6 c7 c8, .bool d1, .slice d2 d3 d4, .bool d5, .slice d6 d7 d8] 37 (Grow.refl _)
    rwa [World.size_alloc] at this
  generalize (w3.alloc (.cells #[.bool a1, .slice a2 a3 a4, .bool a5, .slice a6 a7 a8, .bool b1, .slice b2 b3 b4, .bool b5, .slice b6 b7 b8] 37)).alloc (.cells #[.bool c1, .slice c2 c3 c4, .bool c5, .slice c6 c7 c8, .bool d1, .slice d2 d3 d4, .bool d5, .slice d6 d7 d8] 37) = w4 at *
  generalize w3.heap.size + 1 = bb at *
  obtain ⟨ba, hba⟩ : ∃ x, x = w3.heap.size := ⟨_, rfl⟩
  rw [← hba] at FA ⊢
  clear hba
  have HG := Lib.hid (GV.out.dr)
  have FP := Lib.hid (grow_blk HG.out FP.out)
  have FS := Lib.hid (grow_blk HG.out FS.out)
  have FT := Lib.hid (grow_blk HG.out FT.out)
  have FA := Lib.hid (grow_blk (Grow.refl w4).dr FA.out)
  have FB := Lib.hid (grow_blk (Grow.refl w4).dr FB.out)
  have GW := Lib.hid (GW.out.tr HG.out)
  refine wp_region_lexT (Grow w4.drew) ((Grow.refl _)) 11 [0, 1, 2, 3, 4, 5, 6, 8, 9, 10, 7] (by kernel_rfl) (by kernel_rfl) (by intro c a d v w h; cases d <;> exact h) ?_
  iterate 10 (apply lext_take; exact rfl; exact rfl; (intro W hW; have fp := grow_blk hW FP.out; have z0 := cell_of_row _ _ 0 _ _ (0, 0) fp; have z1 := cell_of_row _ _ 1 _ _ (0, 0) fp; clear fp; (try clear hW); go_simp; with_reducible rfl); try simp only [Act.put, List.setIfInBounds_toArray, List.set_cons_zero, List.set_cons_succ])
  have HG := Lib.hid (show Grow w3 w4.drew from HG.out)
  generalize w4.drew = w5 at *
  clear GV
  apply lext_turn; exact rfl; exact rfl; exact rfl; intro K hK; go_simp; go_at_call 13; refine I1.out _ _ ?_; intro w6 hg6
  refine hK.out _ _ hg6 ?_
  have G6 := Lib.hid hg6
  clear hK hg6 I1
  try simp only [Act.put, List.setIfInBounds_toArray, List.set_cons_zero, List.set_cons_succ]
  refine lext_nil ?_
  simp only [List.drop_succ_cons, List.drop_zero]
  go_wp2_with fail
  go_at_call 14
  refine I2.out _ _ ?_
  intro w7 hg7
  have G7 := Lib.hid (G6.out.tr hg7)
  have FS := Lib.hid (grow_blk G7.out FS.out)
  have FT := Lib.hid (grow_blk G7.out FT.out)
  have FA := Lib.hid (grow_blk G7.out FA.out)
  have FB := Lib.hid (grow_blk G7.out FB.out)
  have GW := Lib.hid (GW.out.tr G7.out)
  have HG := Lib.hid (HG.out.tr G7.out)
  clear hg7 I2 G6 G7 FP
  cases ok with
  | false =>
    obtain ⟨hz1, hz2⟩ := L3.out rfl
    unfold zeroSpot at hz1 hz2
    rw [Spot.mk.injEq, Fr.mk.injEq, Fr.mk.injEq] at hz1 hz2
    obtain ⟨⟨rfl, rfl, rfl⟩, ⟨rfl, rfl, rfl⟩⟩ := hz1
    obtain ⟨⟨rfl, rfl, rfl⟩, ⟨rfl, rfl, rfl⟩⟩ := hz2
    have x0 := cell_of_row _ bs 0 _ _ (0, 0) FS.out
    have x1 := cell_of_row _ bs 1 _ _ (0, 0) FS.out
    have x2 := cell_of_row _ bs 2 _ _ (0, 0) FS.out
    have x3 := cell_of_row _ bs 3 _ _ (0, 0) FS.out
    have x4 := cell_of_row _ bs 4 _ _ (0, 0) FS.out
    have x5 := cell_of_row _ bs 5 _ _ (0, 0) FS.out
    have y0 := cell_of_row _ bt 0 _ _ (0, 0) FT.out
    have y1 := cell_of_row _ bt 1 _ _ (0, 0) FT.out
    have y2 := cell_of_row _ bt 2 _ _ (0, 0) FT.out
    have y3 := cell_of_row _ bt 3 _ _ (0, 0) FT.out
    have y4 := cell_of_row _ bt 4 _ _ (0, 0) FT.out
    have y5 := cell_of_row _ bt 5 _ _ (0, 0) FT.out
    go_wp2_with fail
    go_at_call 15
    refine live24_any _ ?_
    intro w9 hg9
    have G9 := Lib.hid (GW.out.tr hg9)
    clear hg9
    go_wp2
    exact HR.out _ G9.out
  | true =>
    obtain ⟨e1, e2, e3, e4⟩ := L2.out rfl
    obtain ⟨d1, d2, d3, d4⟩ := HRES.out rfl
    have A1 := Lib.hid (And.intro e1 (And.intro e2 (And.intro e3 e4)))
    have A2 := Lib.hid (And.intro d1 (And.intro d2 (And.intro (d3.gr HG.out) (d4.gr HG.out))))
    clear e1 e2 e3 e4 d1 d2 d3 d4 HRES L2 L3
    have x0 := cell_of_row _ bs 0 _ _ (0, 0) FS.out
    have x1 := cell_of_row _ bs 1 _ _ (0, 0) FS.out
    have x2 := cell_of_row _ bs 2 _ _ (0, 0) FS.out
    have x3 := cell_of_row _ bs 3 _ _ (0, 0) FS.out
    have x4 := cell_of_row _ bs 4 _ _ (0, 0) FS.out
    have x5 := cell_of_row _ bs 5 _ _ (0, 0) FS.out
    have y0 := cell_of_row _ ba 0 _ _ (0, 0) FA.out
    have y1 := cell_of_row _ ba 1 _ _ (0, 0) FA.out
    have y2 := cell_of_row _ ba 2 _ _ (0, 0) FA.out
    have y3 := cell_of_row _ ba 3 _ _ (0, 0) FA.out
    have y4 := cell_of_row _ ba 4 _ _ (0, 0) FA.out
    have y5 := cell_of_row _ ba 5 _ _ (0, 0) FA.out
    have y6 := cell_of_row _ ba 6 _ _ (0, 0) FA.out
    have y7 := cell_of_row _ ba 7 _ _ (0, 0) FA.out
    go_wp2_with fail
    go_at_call 16
    refine IA.out _ _ 15 A1.out.2.2.1 A2.out.2.2.1 (by omega) (A1.out.1.symm.trans A2.out.1.symm) _ ?_
    intro w8 hg8
    have FT := Lib.hid (grow_blk hg8 FT.out)
    have FB := Lib.hid (grow_blk hg8 FB.out)
    have GW := Lib.hid (GW.out.tr hg8)
    have HB := Lib.hid (A2.out.2.2.2.gr hg8)
    clear hg8 x0 x1 x2 x3 x4 x5 y0 y1 y2 y3 y4 y5 y6 y7 IA
    have x0 := cell_of_row _ bt 0 _ _ (0, 0) FT.out
    have x1 := cell_of_row _ bt 1 _ _ (0, 0) FT.out
    have x2 := cell_of_row _ bt 2 _ _ (0, 0) FT.out
    have x3 := cell_of_row _ bt 3 _ _ (0, 0) FT.out
    have x4 := cell_of_row _ bt 4 _ _ (0, 0) FT.out
    have x5 := cell_of_row _ bt 5 _ _ (0, 0) FT.out
    have y0 := cell_of_row _ bb 0 _ _ (0, 0) FB.out
    have y1 := cell_of_row _ bb 1 _ _ (0, 0) FB.out
    have y2 := cell_of_row _ bb 2 _ _ (0, 0) FB.out
    have y3 := cell_of_row _ bb 3 _ _ (0, 0) FB.out
    have y4 := cell_of_row _ bb 4 _ _ (0, 0) FB.out
    have y5 := cell_of_row _ bb 5 _ _ (0, 0) FB.out
    have y6 := cell_of_row _ bb 6 _ _ (0, 0) FB.out
    have y7 := cell_of_row _ bb 7 _ _ (0, 0) FB.out
    go_wp2_with fail
    go_at_call 16
    refine IB.out _ _ 15 A1.out.2.2.2 HB.out (by omega) (A1.out.2.1.symm.trans A2.out.2.1.symm) _ ?_
    intro w8 hg8
    have GW := Lib.hid (GW.out.tr hg8)
    clear hg8 x0 x1 x2 x3 x4 x5 y0 y1 y2 y3 y4 y5 y6 y7 IB
    go_wp2_with fail
    go_at_call 15
    refine live24_any _ ?_
    intro w9 hg9
    have G9 := Lib.hid (GW.out.tr hg9)
    clear hg9
    go_wp2
    exact HR.out _ G9.out
end Go.Proofs.Ytjcgkhcbdbbdkaa
