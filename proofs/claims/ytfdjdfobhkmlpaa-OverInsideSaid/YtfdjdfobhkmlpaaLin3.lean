/-
  Lines clipped at a window: where a border is met; Segment. Printed by wip/tools/gen_lin3.py.
-/
import Derived.Test.YtfdjdfobhkmlpaaChecked
import Derived.Test.YtfdjdfobhkmlpaaLin2
namespace Go.Proofs.Ytfdjdfobhkmlpaa
open Go.RowKit B

def spotW (a : Wn) (p q e : Pt) : Spot :=
  if a.en = true then ⟨⟨e.x, 0, 1⟩, ⟨e.y, 0, 1⟩⟩
  else if a.up = true then ⟨(crossS p q a.c a.up).1, ⟨a.c, 0, 1⟩⟩ else ⟨⟨a.c, 0, 1⟩, (crossS p q a.c a.up).1⟩

set_option maxRecDepth 100000 in
set_option maxHeartbeats 2000000 in
theorem spotW_any (a : Wn) (p q e : Pt) (w : World) {R : Ending → World → Prop} (hR : ∀ w', Grow w w' → R (.returned (.agg (spotW a p q e).cells.toArray)) w') :
    Calls Try.prog 64 #[.agg a.cells.toArray, .agg p.cells.toArray, .agg q.cells.toArray, .agg e.cells.toArray] w R := by
  have HR : ∀ s, spotW a p q e = s → ∀ w', Grow w w' → R (.returned (.agg s.cells.toArray)) w' := by rintro b rfl; exact hR
  have HR := Lib.hid HR
  clear hR
  have CR := Lib.hid fun W (R : Ending → World → Prop) hR => cross_any p q a.c a.up W (R := R) hR
  have OF := Lib.hid fun W (R : Ending → World → Prop) hR => of23_any a.c W (R := R) hR
  have SL := Lib.hid fun W (R : Ending → World → Prop) hR => spotL_any e W (R := R) hR
  have HV : Hid (spotW a p q e = if a.en = true then ⟨⟨e.x, 0, 1⟩, ⟨e.y, 0, 1⟩⟩ else if a.up = true then ⟨(crossS p q a.c a.up).1, ⟨a.c, 0, 1⟩⟩ else ⟨⟨a.c, 0, 1⟩, (crossS p q a.c a.up).1⟩) := rfl
  obtain ⟨cs, ce, hcs⟩ : ∃ f e, crossS p q a.c a.up = (f, e) := ⟨_, _, rfl⟩
  rw [hcs] at CR HV
  clear hcs
  obtain ⟨an, ad, ac, up, en⟩ := a
  obtain ⟨px, py⟩ := p
  obtain ⟨qx, qy⟩ := q
  obtain ⟨ex, ey⟩ := e
  obtain ⟨q3, r3, d3⟩ := cs
  unfold Pt.cells at CR SL
  unfold Wn.cells Pt.cells
  dsimp only at CR OF SL HV ⊢
  obtain ⟨wa, hwa⟩ : ∃ wa, wa = (((((w.alloc (.cells #[.int .i64 an, .int .i64 ad, .int .i64 ac, .bool up, .bool en] 109)).alloc (.cells #[.int .i64 px, .int .i64 py] 36)).alloc (.cells #[.int .i64 qx, .int .i64 qy] 36)).alloc (.cells #[.int .i64 ex, .int .i64 ey] 36)).alloc (.cells #[.int .i64 0, .int .u64 0, .int .u64 0, .int .i64 0, .int .u64 0, .int .u64 0] 91)) := ⟨_, rfl⟩
  have BA : Hid (BoxH w (w.heap.size) #[.int .i64 an, .int .i64 ad, .int .i64 ac, .bool up, .bool en] 109 wa) := by
    have := (BoxH.laid (w := w) #[.int .i64 an, .int .i64 ad, .int .i64 ac, .bool up, .bool en] 109 (Grow.refl w)).tr (((((Grow.refl _).al (.cells #[.int .i64 px, .int .i64 py] 36)).al (.cells #[.int .i64 qx, .int .i64 qy] 36)).al (.cells #[.int .i64 ex, .int .i64 ey] 36)).al (.cells #[.int .i64 0, .int .u64 0, .int .u64 0, .int .i64 0, .int .u64 0, .int .u64 0] 91))
    rw [hwa]
    exact this
  have BP : Hid (BoxH w (w.heap.size + 1) #[.int .i64 px, .int .i64 py] 36 wa) := by
    have := (BoxH.laid (w := (w.alloc (.cells #[.int .i64 an, .int .i64 ad, .int .i64 ac, .bool up, .bool en] 109))) #[.int .i64 px, .int .i64 py] 36 ((Grow.refl w).al _)).tr ((((Grow.refl _).al (.cells #[.int .i64 qx, .int .i64 qy] 36)).al (.cells #[.int .i64 ex, .int .i64 ey] 36)).al (.cells #[.int .i64 0, .int .u64 0, .int .u64 0, .int .i64 0, .int .u64 0, .int .u64 0] 91))
    rw [World.size_alloc] at this
    rw [hwa]
    exact this
  have BQ : Hid (BoxH w (w.heap.size + 1 + 1) #[.int .i64 qx, .int .i64 qy] 36 wa) := by
    have := (BoxH.laid (w := ((w.alloc (.cells #[.int .i64 an, .int .i64 ad, .int .i64 ac, .bool up, .bool en] 109)).alloc (.cells #[.int .i64 px, .int .i64 py] 36))) #[.int .i64 qx, .int .i64 qy] 36 (((Grow.refl w).al _).al _)).tr (((Grow.refl _).al (.cells #[.int .i64 ex, .int .i64 ey] 36)).al (.cells #[.int .i64 0, .int .u64 0, .int .u64 0, .int .i64 0, .int .u64 0, .int .u64 0] 91))
    rw [World.size_alloc, World.size_alloc] at this
    rw [hwa]
    exact this
  have BE : Hid (BoxH w (w.heap.size + 1 + 1 + 1) #[.int .i64 ex, .int .i64 ey] 36 wa) := by
    have := (BoxH.laid (w := (((w.alloc (.cells #[.int .i64 an, .int .i64 ad, .int .i64 ac, .bool up, .bool en] 109)).alloc (.cells #[.int .i64 px, .int .i64 py] 36)).alloc (.cells #[.int .i64 qx, .int .i64 qy] 36))) #[.int .i64 ex, .int .i64 ey] 36 ((((Grow.refl w).al _).al _).al _)).tr ((Grow.refl _).al (.cells #[.int .i64 0, .int .u64 0, .int .u64 0, .int .i64 0, .int .u64 0, .int .u64 0] 91))
    rw [World.size_alloc, World.size_alloc, World.size_alloc] at this
    rw [hwa]
    exact this
  have BR : Hid (BoxH w (w.heap.size + 1 + 1 + 1 + 1) #[.int .i64 0, .int .u64 0, .int .u64 0, .int .i64 0, .int .u64 0, .int .u64 0] 91 wa) := by
    have := (BoxH.laid (w := ((((w.alloc (.cells #[.int .i64 an, .int .i64 ad, .int .i64 ac, .bool up, .bool en] 109)).alloc (.cells #[.int .i64 px, .int .i64 py] 36)).alloc (.cells #[.int .i64 qx, .int .i64 qy] 36)).alloc (.cells #[.int .i64 ex, .int .i64 ey] 36))) #[.int .i64 0, .int .u64 0, .int .u64 0, .int .i64 0, .int .u64 0, .int .u64 0] 91 (((((Grow.refl w).al _).al _).al _).al _)).tr (Grow.refl _)
    rw [World.size_alloc, World.size_alloc, World.size_alloc, World.size_alloc] at this
    rw [hwa]
    exact this
  have HWA := Lib.hid hwa
  clear hwa
  have a0 := BA.out.cell 0
  have a1 := BA.out.cell 1
  have a2 := BA.out.cell 2
  have a3 := BA.out.cell 3
  have a4 := BA.out.cell 4
  have p0 := BP.out.cell 0
  have p1 := BP.out.cell 1
  have q0 := BQ.out.cell 0
  have q1 := BQ.out.cell 1
  have e0 := BE.out.cell 0
  have e1 := BE.out.cell 1
  cases en with
  | true =>
    go_enter Try.func64, Try.ntmps64
    go_upto_region 1 with fail
    rw [← HWA.out]
    clear HWA
    go_wp2_with fail
    clear a0 a1 a2 a3 a4 p0 p1 q0 q1 e0 e1
    go_at_call 52
    refine SL.out _ _ ?_
    intro w5 hg5
    have BR := Lib.hid (BR.out.tr hg5)
    clear hg5
    have rz0 := BR.out.cell 0
    have rg0 := BR.out.free 0
    have rB1 := Lib.hid (BR.out.set 0 (.int .i64 ex))
    have rz1 := rB1.out.cell 1
    have rg1 := rB1.out.free 1
    have rB2 := Lib.hid (rB1.out.set 1 (.int .u64 0))
    have rz2 := rB2.out.cell 2
    have rg2 := rB2.out.free 2
    have rB3 := Lib.hid (rB2.out.set 2 (.int .u64 1))
    have rz3 := rB3.out.cell 3
    have rg3 := rB3.out.free 3
    have rB4 := Lib.hid (rB3.out.set 3 (.int .i64 ey))
    have rz4 := rB4.out.cell 4
    have rg4 := rB4.out.free 4
    have rB5 := Lib.hid (rB4.out.set 4 (.int .u64 0))
    have rz5 := rB5.out.cell 5
    have rg5 := rB5.out.free 5
    have rB6 := Lib.hid (rB5.out.set 5 (.int .u64 1))
    go_wp2
    have k0 := rB6.out.cell 0
    have k1 := rB6.out.cell 1
    have k2 := rB6.out.cell 2
    have k3 := rB6.out.cell 3
    have k4 := rB6.out.cell 4
    have k5 := rB6.out.cell 5
    simp only [List.setIfInBounds_toArray, List.set_cons_zero, List.set_cons_succ] at k0 k1 k2 k3 k4 k5
    exact bodyPost_ret (v := .agg #[.int .i64 ex, .int .u64 0, .int .u64 1, .int .i64 ey, .int .u64 0, .int .u64 1]) (by simp [results, Try.f64, go_sem, k0, k1, k2, k3, k4, k5]) rfl (HR.out ⟨⟨ex, 0, 1⟩, ⟨ey, 0, 1⟩⟩ HV.out _ rB6.out.grow)
  | false =>
    go_enter Try.func64, Try.ntmps64
    go_upto_region 1 with fail
    rw [← HWA.out]
    clear HWA
    go_wp2_with fail
    clear a0 a1 a2 a3 a4 p0 p1 q0 q1 e0 e1
    go_at_call 71
    refine CR.out _ _ ?_
    intro w1 f e hfe hg1
    obtain ⟨rfl, rfl⟩ := Prod.mk.inj hfe
    have BA := Lib.hid (BA.out.tr hg1)
    have BR := Lib.hid (BR.out.tr hg1)
    clear hg1 hfe
    unfold Fr.cells
    dsimp only
    have BF := Lib.hid (BoxH.laid #[.int .i64 q3, .int .u64 (r3 : Nat), .int .u64 (d3 : Nat)] 89 BR.out.grow)
    have BA := Lib.hid (BA.out.tr ((Grow.refl _).al (.cells #[.int .i64 q3, .int .u64 (r3 : Nat), .int .u64 (d3 : Nat)] 89)))
    have BR := Lib.hid (BR.out.tr ((Grow.refl _).al (.cells #[.int .i64 q3, .int .u64 (r3 : Nat), .int .u64 (d3 : Nat)] 89)))
    have a3 := BA.out.cell 3
    cases up with
    | false =>
      go_wp2_with fail
      clear a3
      generalize w1.alloc (.cells #[.int .i64 q3, .int .u64 (r3 : Nat), .int .u64 (d3 : Nat)] 89) = w2 at *
      generalize w1.heap.size = fb at *
      refine wp_region_lexT (fun W => BoxH w w.heap.size #[.int .i64 an, .int .i64 ad, .int .i64 ac, .bool false, .bool false] 109 W ∧ BoxH w fb #[.int .i64 q3, .int .u64 (r3 : Nat), .int .u64 (d3 : Nat)] 89 W ∧ BoxH w (w.heap.size + 1 + 1 + 1 + 1) #[.int .i64 0, .int .u64 0, .int .u64 0, .int .i64 0, .int .u64 0, .int .u64 0] 91 W) (⟨BA.out.tr (Grow.refl _).dr, BF.out.tr (Grow.refl _).dr, BR.out.tr (Grow.refl _).dr⟩) 4 [0, 1, 3, 2] (by kernel_rfl) (by kernel_rfl) (by intro c a d v w h; cases d <;> exact h) ?_
      iterate 3 (apply lext_take; exact rfl; exact rfl; (intro W hW; have z0 := hW.1.cell 2; have z1 := hW.2.1.cell 0; have z2 := hW.2.1.cell 1; have z3 := hW.2.1.cell 2; (try clear hW); go_simp; with_reducible rfl); try simp only [Act.put, List.setIfInBounds_toArray, List.set_cons_zero, List.set_cons_succ])
      have BA := Lib.hid (BA.out.tr (Grow.refl _).dr)
      have BF := Lib.hid (BF.out.tr (Grow.refl _).dr)
      have BR := Lib.hid (BR.out.tr (Grow.refl _).dr)
      apply lext_turn; exact rfl; exact rfl; exact rfl; intro K hK; go_simp; go_at_call 58; refine OF.out _ _ ?_; intro w5 hg5
      have BA := Lib.hid (BA.out.tr hg5)
      have BF := Lib.hid (BF.out.tr hg5)
      have BR := Lib.hid (BR.out.tr hg5)
      refine hK.out _ _ ⟨BA.out, BF.out, BR.out⟩ ?_
      clear hK hg5
      try simp only [Act.put, List.setIfInBounds_toArray, List.set_cons_zero, List.set_cons_succ]
      refine lext_nil ?_
      simp only [List.drop_succ_cons, List.drop_zero]
      have rz0 := BR.out.cell 0
      have rg0 := BR.out.free 0
      have rB1 := Lib.hid (BR.out.set 0 (.int .i64 ac))
      have rz1 := rB1.out.cell 1
      have rg1 := rB1.out.free 1
      have rB2 := Lib.hid (rB1.out.set 1 (.int .u64 0))
      have rz2 := rB2.out.cell 2
      have rg2 := rB2.out.free 2
      have rB3 := Lib.hid (rB2.out.set 2 (.int .u64 1))
      have rz3 := rB3.out.cell 3
      have rg3 := rB3.out.free 3
      have rB4 := Lib.hid (rB3.out.set 3 (.int .i64 q3))
      have rz4 := rB4.out.cell 4
      have rg4 := rB4.out.free 4
      have rB5 := Lib.hid (rB4.out.set 4 (.int .u64 (r3 : Nat)))
      have rz5 := rB5.out.cell 5
      have rg5 := rB5.out.free 5
      have rB6 := Lib.hid (rB5.out.set 5 (.int .u64 (d3 : Nat)))
      go_wp2
      have k0 := rB6.out.cell 0
      have k1 := rB6.out.cell 1
      have k2 := rB6.out.cell 2
      have k3 := rB6.out.cell 3
      have k4 := rB6.out.cell 4
      have k5 := rB6.out.cell 5
      simp only [List.setIfInBounds_toArray, List.set_cons_zero, List.set_cons_succ] at k0 k1 k2 k3 k4 k5
      exact bodyPost_ret (v := .agg #[.int .i64 ac, .int .u64 0, .int .u64 1, .int .i64 q3, .int .u64 (r3 : Nat), .int .u64 (d3 : Nat)]) (by simp [results, Try.f64, go_sem, k0, k1, k2, k3, k4, k5]) rfl (HR.out ⟨⟨ac, 0, 1⟩, ⟨q3, r3, d3⟩⟩ HV.out _ rB6.out.grow)
    | true =>
      go_wp2_with fail
      clear a3
      generalize w1.alloc (.cells #[.int .i64 q3, .int .u64 (r3 : Nat), .int .u64 (d3 : Nat)] 89) = w2 at *
      generalize w1.heap.size = fb at *
      refine wp_region_lexT (fun W => BoxH w w.heap.size #[.int .i64 an, .int .i64 ad, .int .i64 ac, .bool true, .bool false] 109 W ∧ BoxH w fb #[.int .i64 q3, .int .u64 (r3 : Nat), .int .u64 (d3 : Nat)] 89 W ∧ BoxH w (w.heap.size + 1 + 1 + 1 + 1) #[.int .i64 0, .int .u64 0, .int .u64 0, .int .i64 0, .int .u64 0, .int .u64 0] 91 W) (⟨BA.out.tr (Grow.refl _).dr, BF.out.tr (Grow.refl _).dr, BR.out.tr (Grow.refl _).dr⟩) 4 [0, 1, 2, 3] (by kernel_rfl) (by kernel_rfl) (by intro c a d v w h; cases d <;> exact h) ?_
      iterate 3 (apply lext_take; exact rfl; exact rfl; (intro W hW; have z0 := hW.1.cell 2; have z1 := hW.2.1.cell 0; have z2 := hW.2.1.cell 1; have z3 := hW.2.1.cell 2; (try clear hW); go_simp; with_reducible rfl); try simp only [Act.put, List.setIfInBounds_toArray, List.set_cons_zero, List.set_cons_succ])
      have BA := Lib.hid (BA.out.tr (Grow.refl _).dr)
      have BF := Lib.hid (BF.out.tr (Grow.refl _).dr)
      have BR := Lib.hid (BR.out.tr (Grow.refl _).dr)
      apply lext_turn; exact rfl; exact rfl; exact rfl; intro K hK; go_simp; go_at_call 58; refine OF.out _ _ ?_; intro w5 hg5
      have BA := Lib.hid (BA.out.tr hg5)
      have BF := Lib.hid (BF.out.tr hg5)
      have BR := Lib.hid (BR.out.tr hg5)
      refine hK.out _ _ ⟨BA.out, BF.out, BR.out⟩ ?_
      clear hK hg5
      try simp only [Act.put, List.setIfInBounds_toArray, List.set_cons_zero, List.set_cons_succ]
      refine lext_nil ?_
      simp only [List.drop_succ_cons, List.drop_zero]
      have rz0 := BR.out.cell 0
      have rg0 := BR.out.free 0
      have rB1 := Lib.hid (BR.out.set 0 (.int .i64 q3))
      have rz1 := rB1.out.cell 1
      have rg1 := rB1.out.free 1
      have rB2 := Lib.hid (rB1.out.set 1 (.int .u64 (r3 : Nat)))
      have rz2 := rB2.out.cell 2
      have rg2 := rB2.out.free 2
      have rB3 := Lib.hid (rB2.out.set 2 (.int .u64 (d3 : Nat)))
      have rz3 := rB3.out.cell 3
      have rg3 := rB3.out.free 3
      have rB4 := Lib.hid (rB3.out.set 3 (.int .i64 ac))
      have rz4 := rB4.out.cell 4
      have rg4 := rB4.out.free 4
      have rB5 := Lib.hid (rB4.out.set 4 (.int .u64 0))
      have rz5 := rB5.out.cell 5
      have rg5 := rB5.out.free 5
      have rB6 := Lib.hid (rB5.out.set 5 (.int .u64 1))
      go_wp2
      have k0 := rB6.out.cell 0
      have k1 := rB6.out.cell 1
      have k2 := rB6.out.cell 2
      have k3 := rB6.out.cell 3
      have k4 := rB6.out.cell 4
      have k5 := rB6.out.cell 5
      simp only [List.setIfInBounds_toArray, List.set_cons_zero, List.set_cons_succ] at k0 k1 k2 k3 k4 k5
      exact bodyPost_ret (v := .agg #[.int .i64 q3, .int .u64 (r3 : Nat), .int .u64 (d3 : Nat), .int .i64 ac, .int .u64 0, .int .u64 1]) (by simp [results, Try.f64, go_sem, k0, k1, k2, k3, k4, k5]) rfl (HR.out ⟨⟨q3, r3, d3⟩, ⟨ac, 0, 1⟩⟩ HV.out _ rB6.out.grow)

def W0 : Wn := ⟨0, 1, 0, false, true⟩
def W1 : Wn := ⟨1, 1, 0, false, true⟩
def zeroSpot : Spot := ⟨⟨0, 0, 0⟩, ⟨0, 0, 0⟩⟩
def segBad (p q : Pt) (lo hi : Int) : Bool := decide (hi < lo) || ([p.x, p.y, q.x, q.y, lo, hi].any fun n => !inw n)
def segT (p q : Pt) (lo hi : Int) : Spot × Spot × Bool :=
  if segBad p q lo hi = true then (zeroSpot, zeroSpot, false)
  else
    let s := slabS W0 W1 p.x q.x lo hi false
    if s.2.2 = false then (zeroSpot, zeroSpot, false)
    else
      let t := slabS s.1 s.2.1 p.y q.y lo hi true
      if t.2.2 = false then (zeroSpot, zeroSpot, false)
      else (spotW t.1 p q p, spotW t.2.1 p q q, true)
theorem slabS_ok {i0 i1 j0 j1 : Wn} {p q lo hi : Int} {up ok : Bool} (h0 : i0.ok) (h1 : i1.ok) (hp : inw p = true) (hq : inw q = true) (hl : inw lo = true) (hh : inw hi = true) (h : slabS i0 i1 p q lo hi up = (j0, j1, ok)) : j0.ok ∧ j1.ok := by
  have AB := slabA_ok (up := up) hp hq hl hh
  unfold slabS at h
  split at h
  · rw [Prod.mk.injEq, Prod.mk.injEq] at h
    rw [← h.1, ← h.2.1]
    exact ⟨h0, h1⟩
  · rw [Prod.mk.injEq, Prod.mk.injEq] at h
    rw [← h.1, ← h.2.1]
    exact ⟨slab0_ok AB.1 h0, slab1_ok AB.2 h1⟩

set_option maxRecDepth 100000 in
set_option maxHeartbeats 2000000 in
theorem segment_any (p q : Pt) (lo hi : Int) (w : World) {R : Ending → World → Prop} (hR : ∀ a b ok w', segT p q lo hi = (a, b, ok) → Grow w w' → R (.returned (.tuple #[.agg a.cells.toArray, .agg b.cells.toArray, .bool ok])) w') :
    Calls Try.prog 53 #[.agg p.cells.toArray, .agg q.cells.toArray, .int .i64 lo, .int .i64 hi] w R := by
  have HR := Lib.hid hR
  clear hR
  obtain ⟨wa, hwa⟩ : ∃ wa, wa = ((((w.alloc (.cells #[.int .i64 p.x, .int .i64 p.y] 36)).alloc (.cells #[.int .i64 q.x, .int .i64 q.y] 36)).alloc (.cells #[.int .i64 0, .int .u64 0, .int .u64 0, .int .i64 0, .int .u64 0, .int .u64 0] 91)).alloc (.cells #[.int .i64 0, .int .u64 0, .int .u64 0, .int .i64 0, .int .u64 0, .int .u64 0] 91)) := ⟨_, rfl⟩
  have BP : Hid (BoxH w (w.heap.size) #[.int .i64 p.x, .int .i64 p.y] 36 wa) := by
    have := (BoxH.laid (w := w) #[.int .i64 p.x, .int .i64 p.y] 36 (Grow.refl w)).tr ((((Grow.refl _).al (.cells #[.int .i64 q.x, .int .i64 q.y] 36)).al (.cells #[.int .i64 0, .int .u64 0, .int .u64 0, .int .i64 0, .int .u64 0, .int .u64 0] 91)).al (.cells #[.int .i64 0, .int .u64 0, .int .u64 0, .int .i64 0, .int .u64 0, .int .u64 0] 91))
    rw [hwa]
    exact this
  have BQ : Hid (BoxH w (w.heap.size + 1) #[.int .i64 q.x, .int .i64 q.y] 36 wa) := by
    have := (BoxH.laid (w := (w.alloc (.cells #[.int .i64 p.x, .int .i64 p.y] 36))) #[.int .i64 q.x, .int .i64 q.y] 36 ((Grow.refl w).al _)).tr (((Grow.refl _).al (.cells #[.int .i64 0, .int .u64 0, .int .u64 0, .int .i64 0, .int .u64 0, .int .u64 0] 91)).al (.cells #[.int .i64 0, .int .u64 0, .int .u64 0, .int .i64 0, .int .u64 0, .int .u64 0] 91))
    rw [World.size_alloc] at this
    rw [hwa]
    exact this
  have B1 : Hid (BoxH w (w.heap.size + 1 + 1) #[.int .i64 0, .int .u64 0, .int .u64 0, .int .i64 0, .int .u64 0, .int .u64 0] 91 wa) := by
    have := (BoxH.laid (w := ((w.alloc (.cells #[.int .i64 p.x, .int .i64 p.y] 36)).alloc (.cells #[.int .i64 q.x, .int .i64 q.y] 36))) #[.int .i64 0, .int .u64 0, .int .u64 0, .int .i64 0, .int .u64 0, .int .u64 0] 91 (((Grow.refl w).al _).al _)).tr ((Grow.refl _).al (.cells #[.int .i64 0, .int .u64 0, .int .u64 0, .int .i64 0, .int .u64 0, .int .u64 0] 91))
    rw [World.size_alloc, World.size_alloc] at this
    rw [hwa]
    exact this
  have B2 : Hid (BoxH w (w.heap.size + 1 + 1 + 1) #[.int .i64 0, .int .u64 0, .int .u64 0, .int .i64 0, .int .u64 0, .int .u64 0] 91 wa) := by
    have := (BoxH.laid (w := (((w.alloc (.cells #[.int .i64 p.x, .int .i64 p.y] 36)).alloc (.cells #[.int .i64 q.x, .int .i64 q.y] 36)).alloc (.cells #[.int .i64 0, .int .u64 0, .int .u64 0, .int .i64 0, .int .u64 0, .int .u64 0] 91))) #[.int .i64 0, .int .u64 0, .int .u64 0, .int .i64 0, .int .u64 0, .int .u64 0] 91 ((((Grow.refl w).al _).al _).al _)).tr (Grow.refl _)
    rw [World.size_alloc, World.size_alloc, World.size_alloc] at this
    rw [hwa]
    exact this
  have HWA := Lib.hid hwa
  clear hwa
  have p0 := BP.out.cell 0
  have p1 := BP.out.cell 1
  have q0 := BQ.out.cell 0
  have q1 := BQ.out.cell 1
  have n12 : w.heap.size + 1 + 1 ≠ w.heap.size + 1 + 1 + 1 := by omega
  have n21 : w.heap.size + 1 + 1 + 1 ≠ w.heap.size + 1 + 1 := by omega
  have n01 : w.heap.size ≠ w.heap.size + 1 + 1 := by omega
  have SZ1 := Lib.hid B2.out.lt
  cases hlh : decide (hi < lo) with
  | true =>
    have ST : Hid (segT p q lo hi = (zeroSpot, zeroSpot, false)) := by show _ = _; unfold segT segBad; rw [hlh]; rfl
    unfold Pt.cells
    go_enter Try.func53, Try.ntmps53
    go_upto_region 1 with fail
    rw [← HWA.out]
    clear HWA
    clear p0 p1 q0 q1
    have uz0 := B1.out.cell 0
    have ug0 := B1.out.free 0
    have uB1 := Lib.hid (B1.out.set 0 (.int .i64 0))
    have uz1 := uB1.out.cell 1
    have ug1 := uB1.out.free 1
    have uB2 := Lib.hid (uB1.out.set 1 (.int .u64 0))
    have uz2 := uB2.out.cell 2
    have ug2 := uB2.out.free 2
    have uB3 := Lib.hid (uB2.out.set 2 (.int .u64 0))
    have uz3 := uB3.out.cell 3
    have ug3 := uB3.out.free 3
    have uB4 := Lib.hid (uB3.out.set 3 (.int .i64 0))
    have uz4 := uB4.out.cell 4
    have ug4 := uB4.out.free 4
    have uB5 := Lib.hid (uB4.out.set 4 (.int .u64 0))
    have uz5 := uB5.out.cell 5
    have ug5 := uB5.out.free 5
    have uB6 := Lib.hid (uB5.out.set 5 (.int .u64 0))
    have B2c := Lib.hid (((((((B2.out.other (j := 0) (v := .int .i64 0) n21 B1.out.2.1).other (j := 1) (v := .int .u64 0) n21 B1.out.2.1).other (j := 2) (v := .int .u64 0) n21 B1.out.2.1).other (j := 3) (v := .int .i64 0) n21 B1.out.2.1).other (j := 4) (v := .int .u64 0) n21 B1.out.2.1).other (j := 5) (v := .int .u64 0) n21 B1.out.2.1))
    have vz0 := B2c.out.cell 0
    have vg0 := B2c.out.free 0
    have vB1 := Lib.hid (B2c.out.set 0 (.int .i64 0))
    have vz1 := vB1.out.cell 1
    have vg1 := vB1.out.free 1
    have vB2 := Lib.hid (vB1.out.set 1 (.int .u64 0))
    have vz2 := vB2.out.cell 2
    have vg2 := vB2.out.free 2
    have vB3 := Lib.hid (vB2.out.set 2 (.int .u64 0))
    have vz3 := vB3.out.cell 3
    have vg3 := vB3.out.free 3
    have vB4 := Lib.hid (vB3.out.set 3 (.int .i64 0))
    have vz4 := vB4.out.cell 4
    have vg4 := vB4.out.free 4
    have vB5 := Lib.hid (vB4.out.set 4 (.int .u64 0))
    have vz5 := vB5.out.cell 5
    have vg5 := vB5.out.free 5
    have vB6 := Lib.hid (vB5.out.set 5 (.int .u64 0))
    have B1c := Lib.hid (((((((uB6.out.other (j := 0) (v := .int .i64 0) n12 B2.out.2.1).other (j := 1) (v := .int .u64 0) n12 B2.out.2.1).other (j := 2) (v := .int .u64 0) n12 B2.out.2.1).other (j := 3) (v := .int .i64 0) n12 B2.out.2.1).other (j := 4) (v := .int .u64 0) n12 B2.out.2.1).other (j := 5) (v := .int .u64 0) n12 B2.out.2.1))
    go_wp2
    have k0 := B1c.out.cell 0
    have k1 := B1c.out.cell 1
    have k2 := B1c.out.cell 2
    have k3 := B1c.out.cell 3
    have k4 := B1c.out.cell 4
    have k5 := B1c.out.cell 5
    have l0 := vB6.out.cell 0
    have l1 := vB6.out.cell 1
    have l2 := vB6.out.cell 2
    have l3 := vB6.out.cell 3
    have l4 := vB6.out.cell 4
    have l5 := vB6.out.cell 5
    simp only [List.setIfInBounds_toArray, List.set_cons_zero, List.set_cons_succ] at k0 k1 k2 k3 k4 k5 l0 l1 l2 l3 l4 l5
    exact bodyPost_ret (v := .tuple #[.agg #[.int .i64 0, .int .u64 0, .int .u64 0, .int .i64 0, .int .u64 0, .int .u64 0], .agg #[.int .i64 0, .int .u64 0, .int .u64 0, .int .i64 0, .int .u64 0, .int .u64 0], .bool false]) (by simp [results, Try.f53, go_sem, k0, k1, k2, k3, k4, k5, l0, l1, l2, l3, l4, l5]) rfl (HR.out zeroSpot zeroSpot false _ ST.out B1c.out.grow)
  | false =>
    have CN := Lib.hid fun W v S h (R : Ending → World → Prop) hR => containsN_any [p.x, p.y, q.x, q.y, lo, hi] v S W h (R := R) hR
    have RL := Lib.hid (Rd.lit wa #[.int .i64 p.x, .int .i64 p.y, .int .i64 q.x, .int .i64 q.y, .int .i64 lo, .int .i64 hi] 3 6 (by decide) rfl : Rd _ _ 1 _ [p.x, p.y, q.x, q.y, lo, hi].length (INTS [p.x, p.y, q.x, q.y, lo, hi]))
    have SB : Hid (segBad p q lo hi = [p.x, p.y, q.x, q.y, lo, hi].any fun n => !inw n) := by show _ = _; unfold segBad; rw [hlh]; rfl
    have IN : Hid (([p.x, p.y, q.x, q.y, lo, hi].any fun n => !inw n) = false → inw p.x = true ∧ inw p.y = true ∧ inw q.x = true ∧ inw q.y = true ∧ inw lo = true ∧ inw hi = true) := fun h => by simpa using h
    obtain ⟨bad, hbad⟩ : ∃ b, ([p.x, p.y, q.x, q.y, lo, hi].any fun n => !inw n) = b := ⟨_, rfl⟩
    rw [hbad] at CN SB IN
    clear hbad
    have BP := Lib.hid (BP.out.tr ((Grow.refl wa).al (.cells #[.int .i64 p.x, .int .i64 p.y, .int .i64 q.x, .int .i64 q.y, .int .i64 lo, .int .i64 hi] 3)))
    have BQ := Lib.hid (BQ.out.tr ((Grow.refl wa).al (.cells #[.int .i64 p.x, .int .i64 p.y, .int .i64 q.x, .int .i64 q.y, .int .i64 lo, .int .i64 hi] 3)))
    have B1 := Lib.hid (B1.out.tr ((Grow.refl wa).al (.cells #[.int .i64 p.x, .int .i64 p.y, .int .i64 q.x, .int .i64 q.y, .int .i64 lo, .int .i64 hi] 3)))
    have B2 := Lib.hid (B2.out.tr ((Grow.refl wa).al (.cells #[.int .i64 p.x, .int .i64 p.y, .int .i64 q.x, .int .i64 q.y, .int .i64 lo, .int .i64 hi] 3)))
    cases bad with
    | true =>
      have ST : Hid (segT p q lo hi = (zeroSpot, zeroSpot, false)) := by show _ = _; unfold segT; rw [SB.out]; rfl
      unfold Pt.cells
      go_enter Try.func53, Try.ntmps53
      go_upto_region 1 with fail
      rw [← HWA.out]
      clear HWA
      go_wp2_with fail
      clear p0 p1 q0 q1
      go_at_call 62
      refine CN.out _ _ _ RL.out _ ?_
      intro w2 hg2
      have BP := Lib.hid (BP.out.tr hg2)
      have BQ := Lib.hid (BQ.out.tr hg2)
      have B1 := Lib.hid (B1.out.tr hg2)
      have B2 := Lib.hid (B2.out.tr hg2)
      have SZ2 := Lib.hid B2.out.lt
      clear hg2 RL CN
      have uz0 := B1.out.cell 0
      have ug0 := B1.out.free 0
      have uB1 := Lib.hid (B1.out.set 0 (.int .i64 0))
      have uz1 := uB1.out.cell 1
      have ug1 := uB1.out.free 1
      have uB2 := Lib.hid (uB1.out.set 1 (.int .u64 0))
      have uz2 := uB2.out.cell 2
      have ug2 := uB2.out.free 2
      have uB3 := Lib.hid (uB2.out.set 2 (.int .u64 0))
      have uz3 := uB3.out.cell 3
      have ug3 := uB3.out.free 3
      have uB4 := Lib.hid (uB3.out.set 3 (.int .i64 0))
      have uz4 := uB4.out.cell 4
      have ug4 := uB4.out.free 4
      have uB5 := Lib.hid (uB4.out.set 4 (.int .u64 0))
      have uz5 := uB5.out.cell 5
      have ug5 := uB5.out.free 5
      have uB6 := Lib.hid (uB5.out.set 5 (.int .u64 0))
      have B2c := Lib.hid (((((((B2.out.other (j := 0) (v := .int .i64 0) n21 B1.out.2.1).other (j := 1) (v := .int .u64 0) n21 B1.out.2.1).other (j := 2) (v := .int .u64 0) n21 B1.out.2.1).other (j := 3) (v := .int .i64 0) n21 B1.out.2.1).other (j := 4) (v := .int .u64 0) n21 B1.out.2.1).other (j := 5) (v := .int .u64 0) n21 B1.out.2.1))
      have vz0 := B2c.out.cell 0
      have vg0 := B2c.out.free 0
      have vB1 := Lib.hid (B2c.out.set 0 (.int .i64 0))
      have vz1 := vB1.out.cell 1
      have vg1 := vB1.out.free 1
      have vB2 := Lib.hid (vB1.out.set 1 (.int .u64 0))
      have vz2 := vB2.out.cell 2
      have vg2 := vB2.out.free 2
      have vB3 := Lib.hid (vB2.out.set 2 (.int .u64 0))
      have vz3 := vB3.out.cell 3
      have vg3 := vB3.out.free 3
      have vB4 := Lib.hid (vB3.out.set 3 (.int .i64 0))
      have vz4 := vB4.out.cell 4
      have vg4 := vB4.out.free 4
      have vB5 := Lib.hid (vB4.out.set 4 (.int .u64 0))
      have vz5 := vB5.out.cell 5
      have vg5 := vB5.out.free 5
      have vB6 := Lib.hid (vB5.out.set 5 (.int .u64 0))
      have B1c := Lib.hid (((((((uB6.out.other (j := 0) (v := .int .i64 0) n12 B2.out.2.1).other (j := 1) (v := .int .u64 0) n12 B2.out.2.1).other (j := 2) (v := .int .u64 0) n12 B2.out.2.1).other (j := 3) (v := .int .i64 0) n12 B2.out.2.1).other (j := 4) (v := .int .u64 0) n12 B2.out.2.1).other (j := 5) (v := .int .u64 0) n12 B2.out.2.1))
      go_wp2
      have k0 := B1c.out.cell 0
      have k1 := B1c.out.cell 1
      have k2 := B1c.out.cell 2
      have k3 := B1c.out.cell 3
      have k4 := B1c.out.cell 4
      have k5 := B1c.out.cell 5
      have l0 := vB6.out.cell 0
      have l1 := vB6.out.cell 1
      have l2 := vB6.out.cell 2
      have l3 := vB6.out.cell 3
      have l4 := vB6.out.cell 4
      have l5 := vB6.out.cell 5
      simp only [List.setIfInBounds_toArray, List.set_cons_zero, List.set_cons_succ] at k0 k1 k2 k3 k4 k5 l0 l1 l2 l3 l4 l5
      exact bodyPost_ret (v := .tuple #[.agg #[.int .i64 0, .int .u64 0, .int .u64 0, .int .i64 0, .int .u64 0, .int .u64 0], .agg #[.int .i64 0, .int .u64 0, .int .u64 0, .int .i64 0, .int .u64 0, .int .u64 0], .bool false]) (by simp [results, Try.f53, go_sem, k0, k1, k2, k3, k4, k5, l0, l1, l2, l3, l4, l5]) rfl (HR.out zeroSpot zeroSpot false _ ST.out B1c.out.grow)
    | false =>
      obtain ⟨i1, i2, i3, i4, i5, i6⟩ := IN.out rfl
      obtain ⟨j0, j1, ok1, hS1⟩ : ∃ j0 j1 ok, slabS W0 W1 p.x q.x lo hi false = (j0, j1, ok) := ⟨_, _, _, rfl⟩
      have OK0 : W0.ok ∧ W1.ok := by unfold Wn.ok W0 W1 I64; decide
      have OK1 := slabS_ok OK0.1 OK0.2 i1 i3 i5 i6 hS1
      obtain ⟨k0, k1, ok2, hS2⟩ : ∃ j0' j1' ok, slabS j0 j1 p.y q.y lo hi true = (j0', j1', ok) := ⟨_, _, _, rfl⟩
      have C1 := Lib.hid fun W (R : Ending → World → Prop) hR => slab_any W0 W1 p.x q.x lo hi false OK0.1 OK0.2 i1 i3 i5 i6 W (R := R) hR
      have C2 := Lib.hid fun W (R : Ending → World → Prop) hR => slab_any j0 j1 p.y q.y lo hi true OK1.1 OK1.2 i2 i4 i5 i6 W (R := R) hR
      have ST : Hid (segT p q lo hi = if ok1 = false then (zeroSpot, zeroSpot, false) else if ok2 = false then (zeroSpot, zeroSpot, false) else (spotW k0 p q p, spotW k1 p q q, true)) := by
        show _ = _
        unfold segT
        rw [SB.out, if_neg (by decide)]
        dsimp only
        rw [hS1]
        dsimp only
        rw [hS2]
      rw [hS1] at C1
      rw [hS2] at C2
      have S1 := Lib.hid fun W (R : Ending → World → Prop) hR => spotW_any k0 p q p W (R := R) hR
      have S2 := Lib.hid fun W (R : Ending → World → Prop) hR => spotW_any k1 p q q W (R := R) hR
      obtain ⟨sa, hsa⟩ : ∃ s, spotW k0 p q p = s := ⟨_, rfl⟩
      obtain ⟨sb, hsb⟩ : ∃ s, spotW k1 p q q = s := ⟨_, rfl⟩
      rw [hsa] at ST S1
      rw [hsb] at ST S2
      clear hsa hsb hS1 hS2 OK0 OK1 i1 i2 i3 i4 i5 i6 IN SB
      obtain ⟨⟨saq, sar, sad⟩, ⟨sbq, sbr, sbd⟩⟩ := sa
      obtain ⟨⟨taq, tar, tad⟩, ⟨tbq, tbr, tbd⟩⟩ := sb
      obtain ⟨jn0, jd0, jc0, ju0, je0⟩ := j0
      obtain ⟨jn1, jd1, jc1, ju1, je1⟩ := j1
      obtain ⟨kn0, kd0, kc0, ku0, ke0⟩ := k0
      obtain ⟨kn1, kd1, kc1, ku1, ke1⟩ := k1
      unfold Wn.cells W0 W1 at C1
      unfold Wn.cells at C2 S1 S2
      unfold Spot.cells Pt.cells at S1 S2
      simp only [List.cons_append, List.nil_append] at C1 C2
      dsimp only at C1 C2 S1 S2
      obtain ⟨px, py⟩ := p
      obtain ⟨qx, qy⟩ := q
      dsimp only at *
      unfold Pt.cells
      go_enter Try.func53, Try.ntmps53
      go_upto_region 1 with fail
      rw [← HWA.out]
      clear HWA
      go_wp2_with fail
      clear p0 p1 q0 q1
      go_at_call 62
      refine CN.out _ _ _ RL.out _ ?_
      intro w2 hg2
      have BP := Lib.hid (BP.out.tr hg2)
      have BQ := Lib.hid (BQ.out.tr hg2)
      have B1 := Lib.hid (B1.out.tr hg2)
      have B2 := Lib.hid (B2.out.tr hg2)
      have SZ2 := Lib.hid B2.out.lt
      clear hg2 RL CN
      have BI := Lib.hid (BoxH.laid #[.int .i64 0, .int .i64 1, .int .i64 0, .bool false, .bool true, .int .i64 1, .int .i64 1, .int .i64 0, .bool false, .bool true] 110 BP.out.grow)
      have BP := Lib.hid (BP.out.tr ((Grow.refl _).al (.cells #[.int .i64 0, .int .i64 1, .int .i64 0, .bool false, .bool true, .int .i64 1, .int .i64 1, .int .i64 0, .bool false, .bool true] 110)))
      have BQ := Lib.hid (BQ.out.tr ((Grow.refl _).al (.cells #[.int .i64 0, .int .i64 1, .int .i64 0, .bool false, .bool true, .int .i64 1, .int .i64 1, .int .i64 0, .bool false, .bool true] 110)))
      have B1 := Lib.hid (B1.out.tr ((Grow.refl _).al (.cells #[.int .i64 0, .int .i64 1, .int .i64 0, .bool false, .bool true, .int .i64 1, .int .i64 1, .int .i64 0, .bool false, .bool true] 110)))
      have B2 := Lib.hid (B2.out.tr ((Grow.refl _).al (.cells #[.int .i64 0, .int .i64 1, .int .i64 0, .bool false, .bool true, .int .i64 1, .int .i64 1, .int .i64 0, .bool false, .bool true] 110)))
      have NI : Hid (w.heap.size + 1 + 1 + 1 < w2.heap.size) := by have := BI.out.lt; rw [World.size_alloc] at this; have := SZ2.out; omega
      have i0 := BI.out.cell 0
      have i1 := BI.out.cell 1
      have i2 := BI.out.cell 2
      have i3 := BI.out.cell 3
      have i4 := BI.out.cell 4
      have i5 := BI.out.cell 5
      have i6 := BI.out.cell 6
      have i7 := BI.out.cell 7
      have i8 := BI.out.cell 8
      have i9 := BI.out.cell 9
      have p0 := BP.out.cell 0
      have p1 := BP.out.cell 1
      have q0 := BQ.out.cell 0
      have q1 := BQ.out.cell 1
      go_upto_region 4 with fail
      generalize w2.alloc (.cells #[.int .i64 0, .int .i64 1, .int .i64 0, .bool false, .bool true, .int .i64 1, .int .i64 1, .int .i64 0, .bool false, .bool true] 110) = w3 at *
      have nI1 : w2.heap.size ≠ w.heap.size + 1 + 1 := by have := NI.out; omega
      have nI2 : w2.heap.size ≠ w.heap.size + 1 + 1 + 1 := by have := NI.out; omega
      have m1 : w.heap.size + 1 + 1 ≠ w2.heap.size := fun e => nI1 e.symm
      have m2 : w.heap.size + 1 + 1 + 1 ≠ w2.heap.size := fun e => nI2 e.symm
      have m3 : w.heap.size ≠ w2.heap.size := by have := NI.out; omega
      have m4 : w.heap.size + 1 ≠ w2.heap.size := by have := NI.out; omega
      clear NI SZ1 SZ2
      generalize w2.heap.size = ib at *
      go_wp2_with fail
      go_at_call 63
      refine C1.out _ _ ?_
      intro x0 x1 ok w4 hx hg4
      rw [Prod.mk.injEq, Prod.mk.injEq] at hx
      obtain ⟨e0, e1, e2⟩ := hx
      subst e0 e1 e2
      have BP := Lib.hid (BP.out.tr hg4)
      have BQ := Lib.hid (BQ.out.tr hg4)
      have B1 := Lib.hid (B1.out.tr hg4)
      have B2 := Lib.hid (B2.out.tr hg4)
      have BI := Lib.hid (BI.out.tr hg4)
      clear hg4 C1 i0 i1 i2 i3 i4 i5 i6 i7 i8 i9 p0 p1 q0 q1
      dsimp only
      have sz0 := BI.out.cell 0
      have sg0 := BI.out.free 0
      have sB1 := Lib.hid (BI.out.set 0 (.int .i64 jn0))
      have sz1 := sB1.out.cell 1
      have sg1 := sB1.out.free 1
      have sB2 := Lib.hid (sB1.out.set 1 (.int .i64 jd0))
      have sz2 := sB2.out.cell 2
      have sg2 := sB2.out.free 2
      have sB3 := Lib.hid (sB2.out.set 2 (.int .i64 jc0))
      have sz3 := sB3.out.cell 3
      have sg3 := sB3.out.free 3
      have sB4 := Lib.hid (sB3.out.set 3 (.bool ju0))
      have sz4 := sB4.out.cell 4
      have sg4 := sB4.out.free 4
      have sB5 := Lib.hid (sB4.out.set 4 (.bool je0))
      have sz5 := sB5.out.cell 5
      have sg5 := sB5.out.free 5
      have sB6 := Lib.hid (sB5.out.set 5 (.int .i64 jn1))
      have sz6 := sB6.out.cell 6
      have sg6 := sB6.out.free 6
      have sB7 := Lib.hid (sB6.out.set 6 (.int .i64 jd1))
      have sz7 := sB7.out.cell 7
      have sg7 := sB7.out.free 7
      have sB8 := Lib.hid (sB7.out.set 7 (.int .i64 jc1))
      have sz8 := sB8.out.cell 8
      have sg8 := sB8.out.free 8
      have sB9 := Lib.hid (sB8.out.set 8 (.bool ju1))
      have sz9 := sB9.out.cell 9
      have sg9 := sB9.out.free 9
      have sB10 := Lib.hid (sB9.out.set 9 (.bool je1))
      have BPx := Lib.hid (((((((((((BP.out.other (j := 0) (v := .int .i64 jn0) m3 BI.out.2.1).other (j := 1) (v := .int .i64 jd0) m3 BI.out.2.1).other (j := 2) (v := .int .i64 jc0) m3 BI.out.2.1).other (j := 3) (v := .bool ju0) m3 BI.out.2.1).other (j := 4) (v := .bool je0) m3 BI.out.2.1).other (j := 5) (v := .int .i64 jn1) m3 BI.out.2.1).other (j := 6) (v := .int .i64 jd1) m3 BI.out.2.1).other (j := 7) (v := .int .i64 jc1) m3 BI.out.2.1).other (j := 8) (v := .bool ju1) m3 BI.out.2.1).other (j := 9) (v := .bool je1) m3 BI.out.2.1))
      have BQx := Lib.hid (((((((((((BQ.out.other (j := 0) (v := .int .i64 jn0) m4 BI.out.2.1).other (j := 1) (v := .int .i64 jd0) m4 BI.out.2.1).other (j := 2) (v := .int .i64 jc0) m4 BI.out.2.1).other (j := 3) (v := .bool ju0) m4 BI.out.2.1).other (j := 4) (v := .bool je0) m4 BI.out.2.1).other (j := 5) (v := .int .i64 jn1) m4 BI.out.2.1).other (j := 6) (v := .int .i64 jd1) m4 BI.out.2.1).other (j := 7) (v := .int .i64 jc1) m4 BI.out.2.1).other (j := 8) (v := .bool ju1) m4 BI.out.2.1).other (j := 9) (v := .bool je1) m4 BI.out.2.1))
      have B1x := Lib.hid (((((((((((B1.out.other (j := 0) (v := .int .i64 jn0) m1 BI.out.2.1).other (j := 1) (v := .int .i64 jd0) m1 BI.out.2.1).other (j := 2) (v := .int .i64 jc0) m1 BI.out.2.1).other (j := 3) (v := .bool ju0) m1 BI.out.2.1).other (j := 4) (v := .bool je0) m1 BI.out.2.1).other (j := 5) (v := .int .i64 jn1) m1 BI.out.2.1).other (j := 6) (v := .int .i64 jd1) m1 BI.out.2.1).other (j := 7) (v := .int .i64 jc1) m1 BI.out.2.1).other (j := 8) (v := .bool ju1) m1 BI.out.2.1).other (j := 9) (v := .bool je1) m1 BI.out.2.1))
      have B2x := Lib.hid (((((((((((B2.out.other (j := 0) (v := .int .i64 jn0) m2 BI.out.2.1).other (j := 1) (v := .int .i64 jd0) m2 BI.out.2.1).other (j := 2) (v := .int .i64 jc0) m2 BI.out.2.1).other (j := 3) (v := .bool ju0) m2 BI.out.2.1).other (j := 4) (v := .bool je0) m2 BI.out.2.1).other (j := 5) (v := .int .i64 jn1) m2 BI.out.2.1).other (j := 6) (v := .int .i64 jd1) m2 BI.out.2.1).other (j := 7) (v := .int .i64 jc1) m2 BI.out.2.1).other (j := 8) (v := .bool ju1) m2 BI.out.2.1).other (j := 9) (v := .bool je1) m2 BI.out.2.1))
      go_upto_region 5 with fail
      clear sz0 sg0 sz1 sg1 sz2 sg2 sz3 sg3 sz4 sg4 sz5 sg5 sz6 sg6 sz7 sg7 sz8 sg8 sz9 sg9
      generalize ((((((((((w4.setCell ⟨ib, 0, none⟩ (.int .i64 jn0)).setCell ⟨ib, 1, none⟩ (.int .i64 jd0)).setCell ⟨ib, 2, none⟩ (.int .i64 jc0)).setCell ⟨ib, 3, none⟩ (.bool ju0)).setCell ⟨ib, 4, none⟩ (.bool je0)).setCell ⟨ib, 5, none⟩ (.int .i64 jn1)).setCell ⟨ib, 6, none⟩ (.int .i64 jd1)).setCell ⟨ib, 7, none⟩ (.int .i64 jc1)).setCell ⟨ib, 8, none⟩ (.bool ju1)).setCell ⟨ib, 9, none⟩ (.bool je1)) = w5 at *
      have sE := sB10.out
      simp only [List.setIfInBounds_toArray, List.set_cons_zero, List.set_cons_succ] at sE
      have BI := Lib.hid sE
      clear sE
      have BP := Lib.hid BPx.out
      have BQ := Lib.hid BQx.out
      have B1 := Lib.hid B1x.out
      have B2 := Lib.hid B2x.out
      clear BPx BQx B1x B2x
      cases ok1 with
      | false =>
        have uz0 := B1.out.cell 0
        have ug0 := B1.out.free 0
        have uB1 := Lib.hid (B1.out.set 0 (.int .i64 0))
        have uz1 := uB1.out.cell 1
        have ug1 := uB1.out.free 1
        have uB2 := Lib.hid (uB1.out.set 1 (.int .u64 0))
        have uz2 := uB2.out.cell 2
        have ug2 := uB2.out.free 2
        have uB3 := Lib.hid (uB2.out.set 2 (.int .u64 0))
        have uz3 := uB3.out.cell 3
        have ug3 := uB3.out.free 3
        have uB4 := Lib.hid (uB3.out.set 3 (.int .i64 0))
        have uz4 := uB4.out.cell 4
        have ug4 := uB4.out.free 4
        have uB5 := Lib.hid (uB4.out.set 4 (.int .u64 0))
        have uz5 := uB5.out.cell 5
        have ug5 := uB5.out.free 5
        have uB6 := Lib.hid (uB5.out.set 5 (.int .u64 0))
        have B2c := Lib.hid (((((((B2.out.other (j := 0) (v := .int .i64 0) n21 B1.out.2.1).other (j := 1) (v := .int .u64 0) n21 B1.out.2.1).other (j := 2) (v := .int .u64 0) n21 B1.out.2.1).other (j := 3) (v := .int .i64 0) n21 B1.out.2.1).other (j := 4) (v := .int .u64 0) n21 B1.out.2.1).other (j := 5) (v := .int .u64 0) n21 B1.out.2.1))
        have vz0 := B2c.out.cell 0
        have vg0 := B2c.out.free 0
        have vB1 := Lib.hid (B2c.out.set 0 (.int .i64 0))
        have vz1 := vB1.out.cell 1
        have vg1 := vB1.out.free 1
        have vB2 := Lib.hid (vB1.out.set 1 (.int .u64 0))
        have vz2 := vB2.out.cell 2
        have vg2 := vB2.out.free 2
        have vB3 := Lib.hid (vB2.out.set 2 (.int .u64 0))
        have vz3 := vB3.out.cell 3
        have vg3 := vB3.out.free 3
        have vB4 := Lib.hid (vB3.out.set 3 (.int .i64 0))
        have vz4 := vB4.out.cell 4
        have vg4 := vB4.out.free 4
        have vB5 := Lib.hid (vB4.out.set 4 (.int .u64 0))
        have vz5 := vB5.out.cell 5
        have vg5 := vB5.out.free 5
        have vB6 := Lib.hid (vB5.out.set 5 (.int .u64 0))
        have B1c := Lib.hid (((((((uB6.out.other (j := 0) (v := .int .i64 0) n12 B2.out.2.1).other (j := 1) (v := .int .u64 0) n12 B2.out.2.1).other (j := 2) (v := .int .u64 0) n12 B2.out.2.1).other (j := 3) (v := .int .i64 0) n12 B2.out.2.1).other (j := 4) (v := .int .u64 0) n12 B2.out.2.1).other (j := 5) (v := .int .u64 0) n12 B2.out.2.1))
        go_wp2
        have k0 := B1c.out.cell 0
        have k1 := B1c.out.cell 1
        have k2 := B1c.out.cell 2
        have k3 := B1c.out.cell 3
        have k4 := B1c.out.cell 4
        have k5 := B1c.out.cell 5
        have l0 := vB6.out.cell 0
        have l1 := vB6.out.cell 1
        have l2 := vB6.out.cell 2
        have l3 := vB6.out.cell 3
        have l4 := vB6.out.cell 4
        have l5 := vB6.out.cell 5
        simp only [List.setIfInBounds_toArray, List.set_cons_zero, List.set_cons_succ] at k0 k1 k2 k3 k4 k5 l0 l1 l2 l3 l4 l5
        exact bodyPost_ret (v := .tuple #[.agg #[.int .i64 0, .int .u64 0, .int .u64 0, .int .i64 0, .int .u64 0, .int .u64 0], .agg #[.int .i64 0, .int .u64 0, .int .u64 0, .int .i64 0, .int .u64 0, .int .u64 0], .bool false]) (by simp [results, Try.f53, go_sem, k0, k1, k2, k3, k4, k5, l0, l1, l2, l3, l4, l5]) rfl (HR.out zeroSpot zeroSpot false _ ST.out B1c.out.grow)
      | true =>
        have i0 := BI.out.cell 0
        have i1 := BI.out.cell 1
        have i2 := BI.out.cell 2
        have i3 := BI.out.cell 3
        have i4 := BI.out.cell 4
        have i5 := BI.out.cell 5
        have i6 := BI.out.cell 6
        have i7 := BI.out.cell 7
        have i8 := BI.out.cell 8
        have i9 := BI.out.cell 9
        have p0 := BP.out.cell 0
        have p1 := BP.out.cell 1
        have q0 := BQ.out.cell 0
        have q1 := BQ.out.cell 1
        go_wp2_with fail
        go_at_call 63
        refine C2.out _ _ ?_
        intro x0 x1 ok w6 hx hg6
        rw [Prod.mk.injEq, Prod.mk.injEq] at hx
        obtain ⟨e0, e1, e2⟩ := hx
        subst e0 e1 e2
        have BP := Lib.hid (BP.out.tr hg6)
        have BQ := Lib.hid (BQ.out.tr hg6)
        have B1 := Lib.hid (B1.out.tr hg6)
        have B2 := Lib.hid (B2.out.tr hg6)
        have BI := Lib.hid (BI.out.tr hg6)
        clear hg6 C2 i0 i1 i2 i3 i4 i5 i6 i7 i8 i9 p0 p1 q0 q1
        dsimp only
        have sz0 := BI.out.cell 0
        have sg0 := BI.out.free 0
        have sB1 := Lib.hid (BI.out.set 0 (.int .i64 kn0))
        have sz1 := sB1.out.cell 1
        have sg1 := sB1.out.free 1
        have sB2 := Lib.hid (sB1.out.set 1 (.int .i64 kd0))
        have sz2 := sB2.out.cell 2
        have sg2 := sB2.out.free 2
        have sB3 := Lib.hid (sB2.out.set 2 (.int .i64 kc0))
        have sz3 := sB3.out.cell 3
        have sg3 := sB3.out.free 3
        have sB4 := Lib.hid (sB3.out.set 3 (.bool ku0))
        have sz4 := sB4.out.cell 4
        have sg4 := sB4.out.free 4
        have sB5 := Lib.hid (sB4.out.set 4 (.bool ke0))
        have sz5 := sB5.out.cell 5
        have sg5 := sB5.out.free 5
        have sB6 := Lib.hid (sB5.out.set 5 (.int .i64 kn1))
        have sz6 := sB6.out.cell 6
        have sg6 := sB6.out.free 6
        have sB7 := Lib.hid (sB6.out.set 6 (.int .i64 kd1))
        have sz7 := sB7.out.cell 7
        have sg7 := sB7.out.free 7
        have sB8 := Lib.hid (sB7.out.set 7 (.int .i64 kc1))
        have sz8 := sB8.out.cell 8
        have sg8 := sB8.out.free 8
        have sB9 := Lib.hid (sB8.out.set 8 (.bool ku1))
        have sz9 := sB9.out.cell 9
        have sg9 := sB9.out.free 9
        have sB10 := Lib.hid (sB9.out.set 9 (.bool ke1))
        have BPx := Lib.hid (((((((((((BP.out.other (j := 0) (v := .int .i64 kn0) m3 BI.out.2.1).other (j := 1) (v := .int .i64 kd0) m3 BI.out.2.1).other (j := 2) (v := .int .i64 kc0) m3 BI.out.2.1).other (j := 3) (v := .bool ku0) m3 BI.out.2.1).other (j := 4) (v := .bool ke0) m3 BI.out.2.1).other (j := 5) (v := .int .i64 kn1) m3 BI.out.2.1).other (j := 6) (v := .int .i64 kd1) m3 BI.out.2.1).other (j := 7) (v := .int .i64 kc1) m3 BI.out.2.1).other (j := 8) (v := .bool ku1) m3 BI.out.2.1).other (j := 9) (v := .bool ke1) m3 BI.out.2.1))
        have BQx := Lib.hid (((((((((((BQ.out.other (j := 0) (v := .int .i64 kn0) m4 BI.out.2.1).other (j := 1) (v := .int .i64 kd0) m4 BI.out.2.1).other (j := 2) (v := .int .i64 kc0) m4 BI.out.2.1).other (j := 3) (v := .bool ku0) m4 BI.out.2.1).other (j := 4) (v := .bool ke0) m4 BI.out.2.1).other (j := 5) (v := .int .i64 kn1) m4 BI.out.2.1).other (j := 6) (v := .int .i64 kd1) m4 BI.out.2.1).other (j := 7) (v := .int .i64 kc1) m4 BI.out.2.1).other (j := 8) (v := .bool ku1) m4 BI.out.2.1).other (j := 9) (v := .bool ke1) m4 BI.out.2.1))
        have B1x := Lib.hid (((((((((((B1.out.other (j := 0) (v := .int .i64 kn0) m1 BI.out.2.1).other (j := 1) (v := .int .i64 kd0) m1 BI.out.2.1).other (j := 2) (v := .int .i64 kc0) m1 BI.out.2.1).other (j := 3) (v := .bool ku0) m1 BI.out.2.1).other (j := 4) (v := .bool ke0) m1 BI.out.2.1).other (j := 5) (v := .int .i64 kn1) m1 BI.out.2.1).other (j := 6) (v := .int .i64 kd1) m1 BI.out.2.1).other (j := 7) (v := .int .i64 kc1) m1 BI.out.2.1).other (j := 8) (v := .bool ku1) m1 BI.out.2.1).other (j := 9) (v := .bool ke1) m1 BI.out.2.1))
        have B2x := Lib.hid (((((((((((B2.out.other (j := 0) (v := .int .i64 kn0) m2 BI.out.2.1).other (j := 1) (v := .int .i64 kd0) m2 BI.out.2.1).other (j := 2) (v := .int .i64 kc0) m2 BI.out.2.1).other (j := 3) (v := .bool ku0) m2 BI.out.2.1).other (j := 4) (v := .bool ke0) m2 BI.out.2.1).other (j := 5) (v := .int .i64 kn1) m2 BI.out.2.1).other (j := 6) (v := .int .i64 kd1) m2 BI.out.2.1).other (j := 7) (v := .int .i64 kc1) m2 BI.out.2.1).other (j := 8) (v := .bool ku1) m2 BI.out.2.1).other (j := 9) (v := .bool ke1) m2 BI.out.2.1))
        go_upto_region 8 with fail
        clear sz0 sg0 sz1 sg1 sz2 sg2 sz3 sg3 sz4 sg4 sz5 sg5 sz6 sg6 sz7 sg7 sz8 sg8 sz9 sg9
        generalize ((((((((((w6.setCell ⟨ib, 0, none⟩ (.int .i64 kn0)).setCell ⟨ib, 1, none⟩ (.int .i64 kd0)).setCell ⟨ib, 2, none⟩ (.int .i64 kc0)).setCell ⟨ib, 3, none⟩ (.bool ku0)).setCell ⟨ib, 4, none⟩ (.bool ke0)).setCell ⟨ib, 5, none⟩ (.int .i64 kn1)).setCell ⟨ib, 6, none⟩ (.int .i64 kd1)).setCell ⟨ib, 7, none⟩ (.int .i64 kc1)).setCell ⟨ib, 8, none⟩ (.bool ku1)).setCell ⟨ib, 9, none⟩ (.bool ke1)) = w7 at *
        have sE := sB10.out
        simp only [List.setIfInBounds_toArray, List.set_cons_zero, List.set_cons_succ] at sE
        have BI := Lib.hid sE
        clear sE
        have BP := Lib.hid BPx.out
        have BQ := Lib.hid BQx.out
        have B1 := Lib.hid B1x.out
        have B2 := Lib.hid B2x.out
        clear BPx BQx B1x B2x
        cases ok2 with
        | false =>
          have uz0 := B1.out.cell 0
          have ug0 := B1.out.free 0
          have uB1 := Lib.hid (B1.out.set 0 (.int .i64 0))
          have uz1 := uB1.out.cell 1
          have ug1 := uB1.out.free 1
          have uB2 := Lib.hid (uB1.out.set 1 (.int .u64 0))
          have uz2 := uB2.out.cell 2
          have ug2 := uB2.out.free 2
          have uB3 := Lib.hid (uB2.out.set 2 (.int .u64 0))
          have uz3 := uB3.out.cell 3
          have ug3 := uB3.out.free 3
          have uB4 := Lib.hid (uB3.out.set 3 (.int .i64 0))
          have uz4 := uB4.out.cell 4
          have ug4 := uB4.out.free 4
          have uB5 := Lib.hid (uB4.out.set 4 (.int .u64 0))
          have uz5 := uB5.out.cell 5
          have ug5 := uB5.out.free 5
          have uB6 := Lib.hid (uB5.out.set 5 (.int .u64 0))
          have B2c := Lib.hid (((((((B2.out.other (j := 0) (v := .int .i64 0) n21 B1.out.2.1).other (j := 1) (v := .int .u64 0) n21 B1.out.2.1).other (j := 2) (v := .int .u64 0) n21 B1.out.2.1).other (j := 3) (v := .int .i64 0) n21 B1.out.2.1).other (j := 4) (v := .int .u64 0) n21 B1.out.2.1).other (j := 5) (v := .int .u64 0) n21 B1.out.2.1))
          have vz0 := B2c.out.cell 0
          have vg0 := B2c.out.free 0
          have vB1 := Lib.hid (B2c.out.set 0 (.int .i64 0))
          have vz1 := vB1.out.cell 1
          have vg1 := vB1.out.free 1
          have vB2 := Lib.hid (vB1.out.set 1 (.int .u64 0))
          have vz2 := vB2.out.cell 2
          have vg2 := vB2.out.free 2
          have vB3 := Lib.hid (vB2.out.set 2 (.int .u64 0))
          have vz3 := vB3.out.cell 3
          have vg3 := vB3.out.free 3
          have vB4 := Lib.hid (vB3.out.set 3 (.int .i64 0))
          have vz4 := vB4.out.cell 4
          have vg4 := vB4.out.free 4
          have vB5 := Lib.hid (vB4.out.set 4 (.int .u64 0))
          have vz5 := vB5.out.cell 5
          have vg5 := vB5.out.free 5
          have vB6 := Lib.hid (vB5.out.set 5 (.int .u64 0))
          have B1c := Lib.hid (((((((uB6.out.other (j := 0) (v := .int .i64 0) n12 B2.out.2.1).other (j := 1) (v := .int .u64 0) n12 B2.out.2.1).other (j := 2) (v := .int .u64 0) n12 B2.out.2.1).other (j := 3) (v := .int .i64 0) n12 B2.out.2.1).other (j := 4) (v := .int .u64 0) n12 B2.out.2.1).other (j := 5) (v := .int .u64 0) n12 B2.out.2.1))
          go_wp2
          have k0 := B1c.out.cell 0
          have k1 := B1c.out.cell 1
          have k2 := B1c.out.cell 2
          have k3 := B1c.out.cell 3
          have k4 := B1c.out.cell 4
          have k5 := B1c.out.cell 5
          have l0 := vB6.out.cell 0
          have l1 := vB6.out.cell 1
          have l2 := vB6.out.cell 2
          have l3 := vB6.out.cell 3
          have l4 := vB6.out.cell 4
          have l5 := vB6.out.cell 5
          simp only [List.setIfInBounds_toArray, List.set_cons_zero, List.set_cons_succ] at k0 k1 k2 k3 k4 k5 l0 l1 l2 l3 l4 l5
          exact bodyPost_ret (v := .tuple #[.agg #[.int .i64 0, .int .u64 0, .int .u64 0, .int .i64 0, .int .u64 0, .int .u64 0], .agg #[.int .i64 0, .int .u64 0, .int .u64 0, .int .i64 0, .int .u64 0, .int .u64 0], .bool false]) (by simp [results, Try.f53, go_sem, k0, k1, k2, k3, k4, k5, l0, l1, l2, l3, l4, l5]) rfl (HR.out zeroSpot zeroSpot false _ ST.out B1c.out.grow)
        | true =>
          go_wp2_with fail
          refine wp_region_lexT (fun W => BoxH w ib #[.int .i64 kn0, .int .i64 kd0, .int .i64 kc0, .bool ku0, .bool ke0, .int .i64 kn1, .int .i64 kd1, .int .i64 kc1, .bool ku1, .bool ke1] 110 W ∧ BoxH w w.heap.size #[.int .i64 px, .int .i64 py] 36 W ∧ BoxH w (w.heap.size + 1) #[.int .i64 qx, .int .i64 qy] 36 W) (⟨BI.out.tr (Grow.refl _).dr, BP.out.tr (Grow.refl _).dr, BQ.out.tr (Grow.refl _).dr⟩) 11 [0, 1, 2, 3, 4, 6, 7, 8, 9, 10, 5] (by kernel_rfl) (by kernel_rfl) (by intro c a d v w h; cases d <;> exact h) ?_
          iterate 10 (apply lext_take; exact rfl; exact rfl; (intro W hW; have i0 := hW.1.cell 0; have i1 := hW.1.cell 1; have i2 := hW.1.cell 2; have i3 := hW.1.cell 3; have i4 := hW.1.cell 4; have i5 := hW.1.cell 5; have i6 := hW.1.cell 6; have i7 := hW.1.cell 7; have i8 := hW.1.cell 8; have i9 := hW.1.cell 9; have p0 := hW.2.1.cell 0; have p1 := hW.2.1.cell 1; have q0 := hW.2.2.cell 0; have q1 := hW.2.2.cell 1; (try clear hW); go_simp; with_reducible rfl); try simp only [Act.put, List.setIfInBounds_toArray, List.set_cons_zero, List.set_cons_succ])
          have BP := Lib.hid (BP.out.tr (Grow.refl _).dr)
          have BQ := Lib.hid (BQ.out.tr (Grow.refl _).dr)
          have B1 := Lib.hid (B1.out.tr (Grow.refl _).dr)
          have B2 := Lib.hid (B2.out.tr (Grow.refl _).dr)
          have BI := Lib.hid (BI.out.tr (Grow.refl _).dr)
          apply lext_turn; exact rfl; exact rfl; exact rfl; intro K hK; go_simp; go_at_call 64; refine S1.out _ _ ?_; intro w8 hg8
          have BP := Lib.hid (BP.out.tr hg8)
          have BQ := Lib.hid (BQ.out.tr hg8)
          have B1 := Lib.hid (B1.out.tr hg8)
          have B2 := Lib.hid (B2.out.tr hg8)
          have BI := Lib.hid (BI.out.tr hg8)
          refine hK.out _ _ ⟨BI.out, BP.out, BQ.out⟩ ?_
          clear hK hg8
          try simp only [Act.put, List.setIfInBounds_toArray, List.set_cons_zero, List.set_cons_succ]
          refine lext_nil ?_
          simp only [List.drop_succ_cons, List.drop_zero]
          go_wp2_with fail
          go_at_call 64
          refine S2.out _ _ ?_
          intro w9 hg9
          have B1 := Lib.hid (B1.out.tr hg9)
          have B2 := Lib.hid (B2.out.tr hg9)
          clear hg9
          have uz0 := B1.out.cell 0
          have ug0 := B1.out.free 0
          have uB1 := Lib.hid (B1.out.set 0 (.int .i64 saq))
          have uz1 := uB1.out.cell 1
          have ug1 := uB1.out.free 1
          have uB2 := Lib.hid (uB1.out.set 1 (.int .u64 (sar : Nat)))
          have uz2 := uB2.out.cell 2
          have ug2 := uB2.out.free 2
          have uB3 := Lib.hid (uB2.out.set 2 (.int .u64 (sad : Nat)))
          have uz3 := uB3.out.cell 3
          have ug3 := uB3.out.free 3
          have uB4 := Lib.hid (uB3.out.set 3 (.int .i64 sbq))
          have uz4 := uB4.out.cell 4
          have ug4 := uB4.out.free 4
          have uB5 := Lib.hid (uB4.out.set 4 (.int .u64 (sbr : Nat)))
          have uz5 := uB5.out.cell 5
          have ug5 := uB5.out.free 5
          have uB6 := Lib.hid (uB5.out.set 5 (.int .u64 (sbd : Nat)))
          have B2c := Lib.hid (((((((B2.out.other (j := 0) (v := .int .i64 saq) n21 B1.out.2.1).other (j := 1) (v := .int .u64 (sar : Nat)) n21 B1.out.2.1).other (j := 2) (v := .int .u64 (sad : Nat)) n21 B1.out.2.1).other (j := 3) (v := .int .i64 sbq) n21 B1.out.2.1).other (j := 4) (v := .int .u64 (sbr : Nat)) n21 B1.out.2.1).other (j := 5) (v := .int .u64 (sbd : Nat)) n21 B1.out.2.1))
          have vz0 := B2c.out.cell 0
          have vg0 := B2c.out.free 0
          have vB1 := Lib.hid (B2c.out.set 0 (.int .i64 taq))
          have vz1 := vB1.out.cell 1
          have vg1 := vB1.out.free 1
          have vB2 := Lib.hid (vB1.out.set 1 (.int .u64 (tar : Nat)))
          have vz2 := vB2.out.cell 2
          have vg2 := vB2.out.free 2
          have vB3 := Lib.hid (vB2.out.set 2 (.int .u64 (tad : Nat)))
          have vz3 := vB3.out.cell 3
          have vg3 := vB3.out.free 3
          have vB4 := Lib.hid (vB3.out.set 3 (.int .i64 tbq))
          have vz4 := vB4.out.cell 4
          have vg4 := vB4.out.free 4
          have vB5 := Lib.hid (vB4.out.set 4 (.int .u64 (tbr : Nat)))
          have vz5 := vB5.out.cell 5
          have vg5 := vB5.out.free 5
          have vB6 := Lib.hid (vB5.out.set 5 (.int .u64 (tbd : Nat)))
          have B1c := Lib.hid (((((((uB6.out.other (j := 0) (v := .int .i64 taq) n12 B2.out.2.1).other (j := 1) (v := .int .u64 (tar : Nat)) n12 B2.out.2.1).other (j := 2) (v := .int .u64 (tad : Nat)) n12 B2.out.2.1).other (j := 3) (v := .int .i64 tbq) n12 B2.out.2.1).other (j := 4) (v := .int .u64 (tbr : Nat)) n12 B2.out.2.1).other (j := 5) (v := .int .u64 (tbd : Nat)) n12 B2.out.2.1))
          go_wp2
          have k0 := B1c.out.cell 0
          have k1 := B1c.out.cell 1
          have k2 := B1c.out.cell 2
          have k3 := B1c.out.cell 3
          have k4 := B1c.out.cell 4
          have k5 := B1c.out.cell 5
          have l0 := vB6.out.cell 0
          have l1 := vB6.out.cell 1
          have l2 := vB6.out.cell 2
          have l3 := vB6.out.cell 3
          have l4 := vB6.out.cell 4
          have l5 := vB6.out.cell 5
          simp only [List.setIfInBounds_toArray, List.set_cons_zero, List.set_cons_succ] at k0 k1 k2 k3 k4 k5 l0 l1 l2 l3 l4 l5
          exact bodyPost_ret (v := .tuple #[.agg #[.int .i64 saq, .int .u64 (sar : Nat), .int .u64 (sad : Nat), .int .i64 sbq, .int .u64 (sbr : Nat), .int .u64 (sbd : Nat)], .agg #[.int .i64 taq, .int .u64 (tar : Nat), .int .u64 (tad : Nat), .int .i64 tbq, .int .u64 (tbr : Nat), .int .u64 (tbd : Nat)], .bool true]) (by simp [results, Try.f53, go_sem, k0, k1, k2, k3, k4, k5, l0, l1, l2, l3, l4, l5]) rfl (HR.out ⟨⟨saq, sar, sad⟩, ⟨sbq, sbr, sbd⟩⟩ ⟨⟨taq, tar, tad⟩, ⟨tbq, tbr, tbd⟩⟩ true _ ST.out B1c.out.grow)
end Go.Proofs.Ytfdjdfobhkmlpaa
