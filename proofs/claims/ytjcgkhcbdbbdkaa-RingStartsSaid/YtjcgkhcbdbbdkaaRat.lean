/-
  Fractions of whole numbers of words: Rat, Whole, Order, Plus, Minus.
-/
import Derived.Test.YtjcgkhcbdbbdkaaChecked
import Derived.Test.YtjcgkhcbdbbdkaaWideDivs
import Derived.Test.YtjcgkhcbdbbdkaaMake
namespace Go.Proofs.Ytjcgkhcbdbbdkaa
open Go.RowKit Go.Lib B

/-- v holds the fraction n / d -/
def RatR (w : World) (S : Nat → Prop) (v : Value) (n d : Int) (k j : Nat) : Prop :=
  ∃ p A x c p' A' x' c', v = .agg #[.bool p, .slice A x c, .bool p', .slice A' x' c'] ∧ BigR w S (.agg #[.bool p, .slice A x c]) n k ∧ BigR w S (.agg #[.bool p', .slice A' x' c']) d j
theorem RatR.gr {w w' : World} {S : Nat → Prop} {v : Value} {n d : Int} {k j : Nat} (h : RatR w S v n d k j) (hg : Grow w w') : RatR w' S v n d k j := by
  obtain ⟨p, A, x, c, p', A', x', c', h1, h2, h3⟩ := h
  exact ⟨p, A, x, c, p', A', x', c', h1, h2.gr hg, h3.gr hg⟩
theorem RatR.into {w : World} {S T : Nat → Prop} {v : Value} {n d : Int} {k j : Nat} (h : RatR w S v n d k j) (hk : ∀ b, S b → T b) : RatR w T v n d k j := by
  obtain ⟨p, A, x, c, p', A', x', c', h1, h2, h3⟩ := h
  exact ⟨p, A, x, c, p', A', x', c', h1, h2.into hk, h3.into hk⟩
theorem RatR.both {w : World} {S : Nat → Prop} {v : Value} {n d : Int} {k j : Nat} (h : RatR w S v n d k j) : RatR w (fun b => S b ∧ b < w.heap.size) v n d k j := by
  obtain ⟨p, A, x, c, p', A', x', c', h1, h2, h3⟩ := h
  exact ⟨p, A, x, c, p', A', x', c', h1, h2.both, h3.both⟩

def st4 (W : World) (b : Nat) (u0 u1 u2 u3 : Value) : World := (((W.setCell ⟨b, 0, none⟩ u0).setCell ⟨b, 1, none⟩ u1).setCell ⟨b, 2, none⟩ u2).setCell ⟨b, 3, none⟩ u3
theorem BigR.st4 {W : World} {S : Nat → Prop} {v : Value} {z : Int} {k b : Nat} (h : BigR W S v z k) (hb : ∀ b', S b' → b' ≠ b) (u0 u1 u2 u3 : Value) : BigR (st4 W b u0 u1 u2 u3) S v z k := (((h.set hb u0).set hb u1).set hb u2).set hb u3
theorem Grow.st4 {w W : World} {b : Nat} (h : Grow w W) (hb : w.heap.size ≤ b) (u0 u1 u2 u3 : Value) : Grow w (st4 W b u0 u1 u2 u3) :=
  (((h.set (p := ⟨b, 0, none⟩) hb u0).set (p := ⟨b, 1, none⟩) hb u1).set (p := ⟨b, 2, none⟩) hb u2).set (p := ⟨b, 3, none⟩) hb u3
theorem st4_same {W : World} {b : Nat} {x0 x1 x2 x3 : Value} {t : TypeId} (h : W.heap[b]? = some (.cells #[x0, x1, x2, x3] t (0, 0))) (u0 u1 u2 u3 : Value) : (st4 W b u0 u1 u2 u3).heap[b]? = some (.cells #[u0, u1, u2, u3] t (0, 0)) := by
  have h1 := blk_set (blk_set (blk_set (blk_set h 0 u0) 1 u1) 2 u2) 3 u3
  simpa [st4] using h1
theorem st4_other {W : World} {b c : Nat} (hne : c ≠ b) (u0 u1 u2 u3 : Value) : (st4 W b u0 u1 u2 u3).heap[c]? = W.heap[c]? := by
  simp [st4, World.setCell, Array.getElem?_modify, hne.symm]


set_option maxRecDepth 100000 in
set_option maxHeartbeats 2000000 in
theorem whole_any (n : Int) (w : World) (hn : I64 n) {R : Ending → World → Prop}
    (hR : ∀ v w', Grow w w' → RatR w' (fun b => w.heap.size ≤ b) v n 1 4 4 → R (.returned v) w') :
    Calls Try.prog 26 #[.int .i64 n] w R := by
  have HR := Lib.hid hR
  clear hR
  obtain ⟨w0, hw0⟩ : ∃ w0, w0 = w.alloc (.cells #[.bool false, .slice none 0 0, .bool false, .slice none 0 0] 35) := ⟨_, rfl⟩
  have G0 : Hid (Grow w w0) := by subst hw0; exact (Grow.refl w).al _
  have F0 : Hid (∀ W, Grow w0 W → W.heap[w.heap.size]? = some (.cells #[.bool false, .slice none 0 0, .bool false, .slice none 0 0] 35 (0, 0))) := fun W h => by subst hw0; exact blk_al _ _ _ h
  have S0 : Hid (w0.heap.size = w.heap.size + 1) := by subst hw0; exact World.size_alloc _ _
  go_enter Try.func26, Try.ntmps26
  go_wp2_with fail
  rw [← hw0]
  clear hw0
  go_at_call 62
  refine int_any n _ hn ?_
  intro r1 w1 hg1 hr1
  obtain ⟨p1, A1, n1, c1, rfl⟩ := hr1.parts
  have G1 := Lib.hid hg1
  have R1 := Lib.hid hr1
  clear hg1 hr1
  go_wp2_with fail
  go_at_call 59
  refine word_any 1 _ (by omega) ?_
  intro r2 w2 hg2 hr2
  obtain ⟨p2, A2, n2, c2, rfl⟩ := hr2.parts
  have G2 := Lib.hid (G1.out.tr hg2)
  have R1 := Lib.hid (R1.out.gr hg2)
  have R2 := Lib.hid hr2
  have SZ1 := Lib.hid (show w.heap.size + 1 ≤ w1.heap.size by have := G1.out.size; have := S0.out; omega)
  clear hg2 hr2
  have hb := F0.out _ G2.out
  have xc0 := cell_of_row _ (w.heap.size) 0 _ _ (0, 0) hb
  have xf0 := frozen_of_row _ (w.heap.size) 0 _ _ hb
  have xb1 := blk_set hb 0 (.bool p1)
  have xc1 := cell_of_row _ (w.heap.size) 1 _ _ (0, 0) xb1
  have xf1 := frozen_of_row _ (w.heap.size) 1 _ _ xb1
  have xb2 := blk_set xb1 1 (.slice A1 n1 c1)
  have xc2 := cell_of_row _ (w.heap.size) 2 _ _ (0, 0) xb2
  have xf2 := frozen_of_row _ (w.heap.size) 2 _ _ xb2
  have xb3 := blk_set xb2 2 (.bool p2)
  have xc3 := cell_of_row _ (w.heap.size) 3 _ _ (0, 0) xb3
  have xf3 := frozen_of_row _ (w.heap.size) 3 _ _ xb3
  have xb4 := blk_set xb3 3 (.slice A2 n2 c2)
  have xr0 := cell_of_row _ (w.heap.size) 0 _ _ (0, 0) xb4
  have xr1 := cell_of_row _ (w.heap.size) 1 _ _ (0, 0) xb4
  have xr2 := cell_of_row _ (w.heap.size) 2 _ _ (0, 0) xb4
  have xr3 := cell_of_row _ (w.heap.size) 3 _ _ (0, 0) xb4
  simp only [List.setIfInBounds_toArray, List.set_cons_zero, List.set_cons_succ] at xc0 xc1 xc2 xc3 xr0 xr1 xr2 xr3
  clear xb1 xb2 xb3 xb4
  go_wp2
  refine bodyPost_ret (v := .agg #[.bool p1, .slice A1 n1 c1, .bool p2, .slice A2 n2 c2]) (by simp [results, Try.f26, go_sem, xr0, xr1, xr2, xr3]) rfl (HR.out _ _ ?_ ?_)
  · exact (G0.out.tr G2.out).st4 (Nat.le_refl _) _ _ _ _
  · have hs0 := S0.out
    have hs1 := SZ1.out
    exact ⟨_, _, _, _, _, _, _, _, rfl, (R1.out.st4 (fun b hb => by omega) _ _ _ _).into fun b hb => by omega, (R2.out.st4 (fun b hb => by omega) _ _ _ _).into fun b hb => by omega⟩

set_option maxRecDepth 100000 in
set_option maxHeartbeats 2000000 in
theorem rat23_any (f : Fr) (w : World) (hf : f.ok) {R : Ending → World → Prop}
    (hR : ∀ v w', Grow w w' → RatR w' (fun b => w.heap.size ≤ b) v (f.q * f.d + f.r) f.d 9 4 → R (.returned v) w') :
    Calls Try.prog 25 #[.agg f.cells.toArray] w R := by
  have HR := Lib.hid hR
  clear hR
  obtain ⟨q, r, d⟩ := f
  obtain ⟨h1, h2, h3, h4⟩ := hf
  unfold Fr.cells
  dsimp only at *
  obtain ⟨w0, hw0⟩ : ∃ w0, w0 = (w.alloc (.cells #[.int .i64 q, .int .u64 (r : Nat), .int .u64 (d : Nat)] 26)).alloc (.cells #[.bool false, .slice none 0 0, .bool false, .slice none 0 0] 35) := ⟨_, rfl⟩
  have G0 : Hid (Grow w w0) := by subst hw0; exact ((Grow.refl w).al _).al _
  have FF : Hid (∀ W, Grow w0 W → W.heap[w.heap.size]? = some (.cells #[.int .i64 q, .int .u64 (r : Nat), .int .u64 (d : Nat)] 26 (0, 0))) := fun W h => by
    subst hw0
    exact blk_al w _ _ (((Grow.refl _).al _).tr h)
  have F0 : Hid (∀ W, Grow w0 W → W.heap[w.heap.size + 1]? = some (.cells #[.bool false, .slice none 0 0, .bool false, .slice none 0 0] 35 (0, 0))) := fun W h => by
    subst hw0
    have := blk_al _ _ _ h
    rwa [World.size_alloc] at this
  have S0 : Hid (w0.heap.size = w.heap.size + 2) := by subst hw0; show _ = _; rw [World.size_alloc, World.size_alloc]
  go_enter Try.func25, Try.ntmps25
  go_wp2_with fail
  rw [← hw0]
  clear hw0
  go_at_call 59
  refine word_any d _ h4 ?_
  intro r1 w1 hg1 hr1
  obtain ⟨p1, A1, n1, c1, rfl⟩ := hr1.parts
  have G1 := Lib.hid hg1
  have R1 := Lib.hid hr1
  clear hg1 hr1
  go_wp2_with fail
  have GA := Lib.hid ((Grow.refl w1).al (.cells #[.bool p1, .slice A1 n1 c1] 33))
  have FD := Lib.hid fun W h => blk_al w1 #[.bool p1, .slice A1 n1 c1] 33 (w' := W) h
  generalize w1.alloc (.cells #[.bool p1, .slice A1 n1 c1] 33) = wa at *
  have GB := Lib.hid (G1.out.tr GA.out)
  have R1 := Lib.hid (R1.out.gr GA.out)
  refine wp_region_lexT (Grow wa) ((Grow.refl wa).dr) 10 [0, 1, 3, 5, 6, 9, 2, 4, 7, 8] (by kernel_rfl) (by kernel_rfl) (by intro c a d v w h; cases d <;> exact h) ?_
  iterate 6 (apply lext_take; exact rfl; exact rfl; (intro W hW; have z0 := cell_of_row _ w.heap.size 0 _ _ (0, 0) (FF.out _ (GB.out.tr hW)); have z1 := cell_of_row _ w.heap.size 1 _ _ (0, 0) (FF.out _ (GB.out.tr hW)); have z2 := cell_of_row _ w.heap.size 2 _ _ (0, 0) (FF.out _ (GB.out.tr hW)); have y0 := cell_of_row _ w1.heap.size 0 _ _ (0, 0) (FD.out _ hW); have y1 := cell_of_row _ w1.heap.size 1 _ _ (0, 0) (FD.out _ hW); (try clear hW); go_simp; with_reducible rfl); try simp only [Act.put, List.setIfInBounds_toArray, List.set_cons_zero, List.set_cons_succ])
  apply lext_turn; exact rfl; exact rfl; exact rfl; intro K hK; go_simp; go_at_call 62; refine int_any q _ ⟨h1, h2⟩ ?_; intro r2 w2 hg2 hr2
  have G2 := Lib.hid ((Grow.refl wa).dr.tr hg2)
  have R2 := Lib.hid hr2
  refine hK.out _ _ G2.out ?_
  clear hK hg2 hr2
  try simp only [Act.put, List.setIfInBounds_toArray, List.set_cons_zero, List.set_cons_succ]
  apply lext_turn; exact rfl; exact rfl; exact rfl; intro K hK; go_simp; go_at_call 61; refine mul_any _ _ 4 4 _ _ _ _ w2 R2.out (R1.out.gr G2.out) (by omega) (by omega) ?_; intro r3 w3 hg3 hr3
  have G3 := Lib.hid (G2.out.tr hg3)
  have R3 := Lib.hid hr3
  refine hK.out _ _ G3.out ?_
  clear hK hg3 hr3
  try simp only [Act.put, List.setIfInBounds_toArray, List.set_cons_zero, List.set_cons_succ]
  apply lext_turn; exact rfl; exact rfl; exact rfl; intro K hK; go_simp; go_at_call 59; refine word_any r _ h3 ?_; intro r4 w4 hg4 hr4
  have G4 := Lib.hid (G3.out.tr hg4)
  have R3 := Lib.hid (R3.out.gr hg4)
  have R4 := Lib.hid hr4
  refine hK.out _ _ G4.out ?_
  clear hK hg4 hr4
  try simp only [Act.put, List.setIfInBounds_toArray, List.set_cons_zero, List.set_cons_succ]
  apply lext_turn; exact rfl; exact rfl; exact rfl; intro K hK; go_simp; go_at_call 60; refine add_any _ _ 8 4 _ _ _ _ w4 R3.out R4.out (by omega) (by omega) ?_; intro r5 w5 hg5 hr5
  obtain ⟨p5, A5, n5, c5, rfl⟩ := hr5.parts
  have G5 := Lib.hid (G4.out.tr hg5)
  have R5 := Lib.hid hr5
  have SZ4 := Lib.hid (show w.heap.size + 2 ≤ w4.heap.size by have := (GB.out.tr G4.out).size; have := S0.out; omega)
  refine hK.out _ _ G5.out ?_
  clear hK hg5 hr5
  try simp only [Act.put, List.setIfInBounds_toArray, List.set_cons_zero, List.set_cons_succ]
  refine lext_nil ?_
  simp only [List.drop_succ_cons, List.drop_zero]
  have R1 := Lib.hid (R1.out.gr G5.out)
  have hb := F0.out _ (GB.out.tr G5.out)
  have xc0 := cell_of_row _ (w.heap.size + 1) 0 _ _ (0, 0) hb
  have xf0 := frozen_of_row _ (w.heap.size + 1) 0 _ _ hb
  have xb1 := blk_set hb 0 (.bool p5)
  have xc1 := cell_of_row _ (w.heap.size + 1) 1 _ _ (0, 0) xb1
  have xf1 := frozen_of_row _ (w.heap.size + 1) 1 _ _ xb1
  have xb2 := blk_set xb1 1 (.slice A5 n5 c5)
  have xc2 := cell_of_row _ (w.heap.size + 1) 2 _ _ (0, 0) xb2
  have xf2 := frozen_of_row _ (w.heap.size + 1) 2 _ _ xb2
  have xb3 := blk_set xb2 2 (.bool p1)
  have xc3 := cell_of_row _ (w.heap.size + 1) 3 _ _ (0, 0) xb3
  have xf3 := frozen_of_row _ (w.heap.size + 1) 3 _ _ xb3
  have xb4 := blk_set xb3 3 (.slice A1 n1 c1)
  have xr0 := cell_of_row _ (w.heap.size + 1) 0 _ _ (0, 0) xb4
  have xr1 := cell_of_row _ (w.heap.size + 1) 1 _ _ (0, 0) xb4
  have xr2 := cell_of_row _ (w.heap.size + 1) 2 _ _ (0, 0) xb4
  have xr3 := cell_of_row _ (w.heap.size + 1) 3 _ _ (0, 0) xb4
  simp only [List.setIfInBounds_toArray, List.set_cons_zero, List.set_cons_succ] at xc0 xc1 xc2 xc3 xr0 xr1 xr2 xr3
  clear xb1 xb2 xb3 xb4
  go_wp2
  refine bodyPost_ret (v := .agg #[.bool p5, .slice A5 n5 c5, .bool p1, .slice A1 n1 c1]) (by simp [results, Try.f25, go_sem, xr0, xr1, xr2, xr3]) rfl (HR.out _ _ ?_ ?_)
  · exact ((G0.out.tr GB.out).tr G5.out).st4 (by omega) _ _ _ _
  · have hs0 := S0.out
    have hs1 := SZ4.out
    exact ⟨_, _, _, _, _, _, _, _, rfl, (R5.out.st4 (fun b hb => by omega) _ _ _ _).into fun b hb => by omega, (R1.out.st4 (fun b hb => by omega) _ _ _ _).into fun b hb => by omega⟩
end Go.Proofs.Ytjcgkhcbdbbdkaa
