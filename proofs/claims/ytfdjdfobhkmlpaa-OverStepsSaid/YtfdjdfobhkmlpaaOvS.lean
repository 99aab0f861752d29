/-
  OverSteps, walked.
-/
import Derived.Test.YtfdjdfobhkmlpaaChecked
import Derived.Test.YtfdjdfobhkmlpaaOvD
import Derived.Test.YtfdjdfobhkmlpaaPRows
import Derived.Test.YtfdjdfobhkmlpaaPRight2
namespace Go.Proofs.Ytfdjdfobhkmlpaa
open Go.RowKit B

/-- the two steps are right, if the one is -/
theorem steps_right {u m X Y bf e M : Int} (hu : 0 ≤ u ∧ u ≤ 7) (hm : 0 ≤ m ∧ m ≤ 7) (hM : pw m = M) (h : zright ⟨u + m, X, Y, bf⟩ e = true) : zright ⟨u, X / M, Y / M, bf⟩ e = true ∧ zright ⟨m, X % M, Y % M, bf⟩ e = true := by
  obtain ⟨h1, h2, h3, h4, h5, h6, h7, h8, h9, h10⟩ := zright_iff h
  dsimp only at *
  have hp := pw_pos m
  have hpu := pw_pos u
  have hpw : pw (u + m) = pw u * pw m := by
    unfold pw
    rw [show (u + m).toNat = u.toNat + m.toNat by omega, Int.pow_add]
  subst hM
  rw [hpw] at h8 h10
  have d1 : X / pw m < pw u := Int.ediv_lt_of_lt_mul hp h8
  have d2 : Y / pw m < pw u := Int.ediv_lt_of_lt_mul hp h10
  have d3 : 0 ≤ X / pw m := Int.ediv_nonneg h7 (by omega)
  have d4 : 0 ≤ Y / pw m := Int.ediv_nonneg h9 (by omega)
  have m1 := Int.emod_nonneg X (show pw m ≠ 0 by omega)
  have m2 := Int.emod_nonneg Y (show pw m ≠ 0 by omega)
  have m3 := Int.emod_lt_of_pos X hp
  have m4 := Int.emod_lt_of_pos Y hp
  exact ⟨zright_of ⟨h1, h2, by dsimp only; omega, by dsimp only; omega, h5, h6, d3, d1, d4, d2⟩, zright_of ⟨h1, h2, by dsimp only; omega, by dsimp only; omega, h5, h6, m1, m3, m2, m4⟩⟩
theorem ptL_one {z : Zm} {e : Int} {l : List Pt} : ptL z e [l] = if ptsIn z e l = [] then [] else [ptsIn z e l] := rfl
/-- points in a window may be a feature's -/
theorem pright_mid {z : Zm} {e : Int} {l : List Pt} {v : Value} (hz : zright z e = true) (hne : ptsIn z e l ≠ []) : pright 1 [⟨v, ptsIn z e l⟩] = 0 := by
  obtain ⟨h1, h2, -, -, h5, h6, -⟩ := zright_iff hz
  have hin : ∀ p ∈ ptsIn z e l, p.off = false := by
    intro p hp
    unfold ptsIn at hp
    have := (List.mem_filter.1 hp).2
    simp only [Pt.inside, Bool.and_eq_true, decide_eq_true_eq] at this
    obtain ⟨⟨⟨a, b⟩, c⟩, d⟩ := this
    unfold Pt.off inm
    rw [decide_eq_true (show -1048576 ≤ p.x by omega), decide_eq_true (show p.x ≤ 1048576 by omega), decide_eq_true (show -1048576 ≤ p.y by omega), decide_eq_true (show p.y ≤ 1048576 by omega)]
    rfl
  have hpos := List.length_pos_iff.2 hne
  generalize ptsIn z e l = L at *
  unfold pright
  rw [if_neg (by omega), if_neg (by simp), if_neg, if_neg]
  · unfold offsR offs
    simp only [List.any_cons, List.any_nil, Bool.or_false, List.any_eq_true, not_exists, not_and]
    intro p hp
    rw [hin p hp]
    decide
  · rintro ⟨r, hr, hlt⟩
    rw [List.mem_singleton.1 hr] at hlt
    dsimp only at hlt
    omega
theorem rd_nil (w : World) (S : Nat → Prop) (size : Nat) : Rd w S size (.slice none 0 0) 0 [] := ⟨by simp, none, 0, rfl, Nat.le_refl _, by unfold maxLen; omega, fun _ => rfl, fun h => absurd h (by omega)⟩
theorem ptsIn_len (z : Zm) (e : Int) (l : List Pt) {n : Nat} (h : l.length ≤ n) : (ptsIn z e l).length ≤ n := by
  unfold ptsIn
  have := List.length_filter_le (fun p => p.inside (-z.b) (e + z.b)) (l.map (scl z e))
  rw [List.length_map] at this
  omega
theorem PtZ.at_ {z : Zm} {W : World} {b : Nat} {t : TypeId} {fr : Nat × Nat} (h : W.heap[b]? = some (.cells z.cells.toArray t fr)) (i : Nat) : W.cell? ⟨b, i, none⟩ = z.cells[i]? := by
  rw [cell_of_row _ _ _ _ _ _ h, List.getElem?_toArray]

set_option maxRecDepth 100000 in
set_option maxHeartbeats 16000000 in
theorem overSteps_walk (l : List Pt) (a b x y e bf : Int) (v : Value) (S : Nat → Prop) (w : World) (hl : Rd w S 2 v l.length (Pts l)) (ha : 0 ≤ a ∧ a ≤ 255) (hb : 0 ≤ b ∧ b ≤ 255) (hx : 0 ≤ x ∧ x ≤ 4294967295) (hy : 0 ≤ y ∧ y ≤ 4294967295)
    {R : Ending → World → Prop} (hR : ∀ w', Grow w w' → R (.returned (.bool true)) w') :
    Calls Try.prog 4 #[v, .int .u8 a, .int .u8 b, .int .u32 x, .int .u32 y, .int .i64 e, .int .i64 bf] w R := by
  have HR := Lib.hid hR
  clear hR
  have hl := hl.lt (by decide)
  have HL := Lib.hid hl
  obtain ⟨_, A, c, rfl, k1, k2, k3, k4⟩ := hl
  unfold maxLen at k2
  clear k3 k4
  obtain ⟨u, hu⟩ : ∃ u, u = a % 8 := ⟨_, rfl⟩
  obtain ⟨m, hm⟩ : ∃ m, m = b % 8 := ⟨_, rfl⟩
  have hub : 0 ≤ u ∧ u ≤ 7 := by omega
  have hmb : 0 ≤ m ∧ m ≤ 7 := by omega
  have c1 : wrap64 a = a := by unfold wrap64; omega
  have c2 : wrap64 b = b := by unfold wrap64; omega
  have c3 : wrap64 x = x := by unfold wrap64; omega
  have c4 : wrap64 y = y := by unfold wrap64; omega
  have t1 : a.tmod 8 = u := by rw [Int.tmod_eq_emod_of_nonneg ha.1, hu]
  have t2 : b.tmod 8 = m := by rw [Int.tmod_eq_emod_of_nonneg hb.1, hm]
  have s1 : wrap64 (u + m) = u + m := by unfold wrap64; omega
  have hs := wrap_pw (n := u + m) (by omega) (by omega)
  clear hu hm
  have G0 := Lib.hid (Grow.refl w)
  go_enter Try.func4, Try.ntmps4
  go_upto_region 3 with fail
  rw [hs]
  clear hs c1 c2 t1 t2
  have hP := pw_pos (u + m)
  have PM : Hid (pw m = pw m) := rfl
  obtain ⟨P, hPd⟩ : ∃ P, P = pw (u + m) := ⟨_, rfl⟩
  rw [← hPd] at hP ⊢
  have HPD := Lib.hid hPd
  clear hPd
  obtain ⟨X, hX⟩ : ∃ X, X = x % P := ⟨_, rfl⟩
  obtain ⟨Y, hY⟩ : ∃ Y, Y = y % P := ⟨_, rfl⟩
  have XB : Hid ((0 ≤ X ∧ X < P) ∧ 0 ≤ Y ∧ Y < P) := by
    have := Int.emod_nonneg x (show P ≠ 0 by omega)
    have := Int.emod_lt_of_pos x hP
    have := Int.emod_nonneg y (show P ≠ 0 by omega)
    have := Int.emod_lt_of_pos y hP
    exact ⟨⟨by omega, by omega⟩, by omega, by omega⟩
  have t3 : x.tmod P = X := by rw [Int.tmod_eq_emod_of_nonneg hx.1, hX]
  have t4 : y.tmod P = Y := by rw [Int.tmod_eq_emod_of_nonneg hy.1, hY]
  have p1 : (P == 0) = false := by rw [beq_eq_false_iff_ne]; omega
  have p2 : ¬ P = 0 := by omega
  have GD := Lib.hid ((Grow.refl w).dr)
  clear hX hY
  refine wp_region_lexT (Grow w.drew) ((Grow.refl _)) 14 [0, 1, 2, 3, 4, 5, 6, 7, 8, 9, 10, 11, 12, 13] (by kernel_rfl) (by kernel_rfl) (by intro c a d v w h; cases d <;> exact h) ?_
  generalize w.drew = w0 at *
  have d1 : IntKind.i64.wrap (u + m) = u + m := IntWalk.i64_in _ (by omega)
  have d2 : IntKind.i64.wrap x = x := IntWalk.i64_in _ (by omega)
  have d3 : IntKind.i64.wrap y = y := IntWalk.i64_in _ (by omega)
  iterate 13 (apply lext_take; exact rfl; exact rfl; (intro W hW; (try clear hW); go_simp; with_reducible rfl); try simp only [Act.put, List.setIfInBounds_toArray, List.set_cons_zero, List.set_cons_succ])
  apply lext_turn; exact rfl; exact rfl; exact rfl; intro K hK; go_simp; refine hK.out _ _ ((Grow.refl _).al _) ?_; clear hK; try simp only [Act.put, List.setIfInBounds_toArray, List.set_cons_zero, List.set_cons_succ]
  refine lext_nil ?_
  simp only [List.drop_succ_cons, List.drop_zero]
  clear t3 t4 c3 c4 p1 p2 d1 d2 d3
  have F0 : Hid ((w0.alloc (.cells #[.int .i64 0, .int .i64 0, .int .i64 0, .int .i64 0] 28)).heap[w0.heap.size]? = some (.cells #[.int .i64 0, .int .i64 0, .int .i64 0, .int .i64 0] 28 (0, 0))) := heap_alloc_new _ _
  have GA : Hid (Grow w0 (w0.alloc (.cells #[.int .i64 0, .int .i64 0, .int .i64 0, .int .i64 0] 28))) := (Grow.refl _).al _
  generalize w0.alloc (.cells #[.int .i64 0, .int .i64 0, .int .i64 0, .int .i64 0] 28) = w1 at *
  obtain ⟨z0, hz0⟩ : ∃ z0, z0 = w0.heap.size := ⟨_, rfl⟩
  rw [← hz0] at F0 ⊢
  have LZ0 : Hid (w.heap.size ≤ z0) := by show _ ≤ _; rw [hz0]; exact GD.out.size
  have GA := Lib.hid (GD.out.tr GA.out)
  clear hz0 GD
  go_upto_region 4 with (refine wpList_store_row rfl 28 _ _ rfl z0 (⟨u + m, X, Y, bf⟩ : Zm).cells.toArray rfl rfl 28 _ F0.out (by kernel_rfl) rfl (by simp [Zm.cells, Value.oneCell']) ?_)
  have FZ : Hid ((w1.setRow z0 (⟨u + m, X, Y, bf⟩ : Zm).cells.toArray).heap[z0]? = some (.cells (⟨u + m, X, Y, bf⟩ : Zm).cells.toArray 28 (0, 0))) := setRow_heap _ _ _ _ _ _ F0.out
  have GA := Lib.hid (GA.out.row2 LZ0.out (⟨u + m, X, Y, bf⟩ : Zm).cells.toArray)
  clear F0
  generalize w1.setRow z0 (⟨u + m, X, Y, bf⟩ : Zm).cells.toArray = w2 at *
  simp only [Act.put]
  refine wp_region_lexT (Grow w2.drew) ((Grow.refl _)) 12 [0, 1, 2, 3, 4, 5, 6, 7, 8, 9, 10, 11] (by kernel_rfl) (by kernel_rfl) (by intro c a d v w h; cases d <;> exact h) ?_
  have GD := Lib.hid ((Grow.refl w2).dr)
  have FZ := Lib.hid (grow_blk GD.out FZ.out)
  have GA := Lib.hid (GA.out.tr GD.out)
  clear GD
  generalize w2.drew = w3 at *
  obtain ⟨M, hM⟩ : ∃ M, (2 : Int) ^ m.toNat = M := ⟨_, rfl⟩
  have HMP : Hid (pw m = M) := hM
  have hMp : 0 < M := by have := pw_pos m; rw [HMP.out] at this; exact this
  have hMl : M ≤ 1073741824 := by have := pw_le (n := m) (by omega); rw [HMP.out] at this; exact this
  have e2 : IntKind.i64.wrap M = M := IntWalk.i64_in _ (by omega)
  have e3 : (M == 0) = false := by rw [beq_eq_false_iff_ne]; omega
  have e4 : ¬ M = 0 := by omega
  have e5 : X.tmod M = X % M := Int.tmod_eq_emod_of_nonneg XB.out.1.1
  have e6 : Y.tmod M = Y % M := Int.tmod_eq_emod_of_nonneg XB.out.2.1
  iterate 11 (apply lext_take; exact rfl; exact rfl; (intro W hW; have q0 := PtZ.at_ (grow_blk hW FZ.out) 0; have q1 := PtZ.at_ (grow_blk hW FZ.out) 1; have q2 := PtZ.at_ (grow_blk hW FZ.out) 2; simp only [Zm.cells, List.getElem?_cons_zero, List.getElem?_cons_succ] at q0 q1 q2; (try clear hW); go_simp; with_reducible rfl); try simp only [Act.put, List.setIfInBounds_toArray, List.set_cons_zero, List.set_cons_succ])
  apply lext_turn; exact rfl; exact rfl; exact rfl; intro K hK; go_simp; refine hK.out _ _ ((Grow.refl _).al _) ?_; clear hK; try simp only [Act.put, List.setIfInBounds_toArray, List.set_cons_zero, List.set_cons_succ]
  refine lext_nil ?_
  simp only [List.drop_succ_cons, List.drop_zero]
  have F0 : Hid ((w3.alloc (.cells #[.int .i64 0, .int .i64 0, .int .i64 0, .int .i64 0] 28)).heap[w3.heap.size]? = some (.cells #[.int .i64 0, .int .i64 0, .int .i64 0, .int .i64 0] 28 (0, 0))) := heap_alloc_new _ _
  have GL : Hid (Grow w3 (w3.alloc (.cells #[.int .i64 0, .int .i64 0, .int .i64 0, .int .i64 0] 28))) := (Grow.refl _).al _
  generalize w3.alloc (.cells #[.int .i64 0, .int .i64 0, .int .i64 0, .int .i64 0] 28) = w4 at *
  obtain ⟨z1, hzb⟩ : ∃ z, z = w3.heap.size := ⟨_, rfl⟩
  rw [← hzb] at F0 ⊢
  have LZ : Hid (w.heap.size ≤ z1 ∧ w3.heap.size ≤ z1) := by show _ ∧ _; rw [hzb]; exact ⟨GA.out.size, Nat.le_refl _⟩
  clear hzb
  go_upto_region 5 with (refine wpList_store_row rfl 28 _ _ rfl z1 (⟨u, X / M, Y / M, bf⟩ : Zm).cells.toArray rfl rfl 28 _ F0.out (by kernel_rfl) rfl (by simp [Zm.cells, Value.oneCell']) ?_)
  have FZ1 : Hid ((w4.setRow z1 (⟨u, X / M, Y / M, bf⟩ : Zm).cells.toArray).heap[z1]? = some (.cells (⟨u, X / M, Y / M, bf⟩ : Zm).cells.toArray 28 (0, 0))) := setRow_heap _ _ _ _ _ _ F0.out
  have GL : Hid (Grow w3 (w4.setRow z1 (⟨u, X / M, Y / M, bf⟩ : Zm).cells.toArray)) := GL.out.row2 LZ.out.2 (⟨u, X / M, Y / M, bf⟩ : Zm).cells.toArray
  clear F0 LZ
  generalize w4.setRow z1 (⟨u, X / M, Y / M, bf⟩ : Zm).cells.toArray = w5 at *
  have GA := Lib.hid (GA.out.tr GL.out)
  have FZ := Lib.hid (grow_blk GL.out FZ.out)
  clear GL
  simp only [Act.put]
  refine wp_region_lexT (Grow w5.drew) ((Grow.refl _)) 14 [0, 1, 2, 3, 4, 5, 6, 7, 8, 9, 10, 11, 12, 13] (by kernel_rfl) (by kernel_rfl) (by intro c a d v w h; cases d <;> exact h) ?_
  have GD := Lib.hid ((Grow.refl w5).dr)
  have FZ := Lib.hid (grow_blk GD.out FZ.out)
  have FZ1 := Lib.hid (grow_blk GD.out FZ1.out)
  have GA := Lib.hid (GA.out.tr GD.out)
  clear GD
  generalize w5.drew = w6 at *
  iterate 13 (apply lext_take; exact rfl; exact rfl; (intro W hW; have q0 := PtZ.at_ (grow_blk hW FZ.out) 0; have q1 := PtZ.at_ (grow_blk hW FZ.out) 1; have q2 := PtZ.at_ (grow_blk hW FZ.out) 2; simp only [Zm.cells, List.getElem?_cons_zero, List.getElem?_cons_succ] at q0 q1 q2; (try clear hW); go_simp; with_reducible rfl); try simp only [Act.put, List.setIfInBounds_toArray, List.set_cons_zero, List.set_cons_succ])
  apply lext_turn; exact rfl; exact rfl; exact rfl; intro K hK; go_simp; refine hK.out _ _ ((Grow.refl _).al _) ?_; clear hK; try simp only [Act.put, List.setIfInBounds_toArray, List.set_cons_zero, List.set_cons_succ]
  refine lext_nil ?_
  simp only [List.drop_succ_cons, List.drop_zero]
  have F0 : Hid ((w6.alloc (.cells #[.int .i64 0, .int .i64 0, .int .i64 0, .int .i64 0] 28)).heap[w6.heap.size]? = some (.cells #[.int .i64 0, .int .i64 0, .int .i64 0, .int .i64 0] 28 (0, 0))) := heap_alloc_new _ _
  have GL : Hid (Grow w6 (w6.alloc (.cells #[.int .i64 0, .int .i64 0, .int .i64 0, .int .i64 0] 28))) := (Grow.refl _).al _
  generalize w6.alloc (.cells #[.int .i64 0, .int .i64 0, .int .i64 0, .int .i64 0] 28) = w4 at *
  obtain ⟨z2, hzb⟩ : ∃ z, z = w6.heap.size := ⟨_, rfl⟩
  rw [← hzb] at F0 ⊢
  have LZ : Hid (w.heap.size ≤ z2 ∧ w6.heap.size ≤ z2) := by show _ ∧ _; rw [hzb]; exact ⟨GA.out.size, Nat.le_refl _⟩
  clear hzb
  go_upto_region 6 with (refine wpList_store_row rfl 28 _ _ rfl z2 (⟨m, X % M, Y % M, bf⟩ : Zm).cells.toArray rfl rfl 28 _ F0.out (by kernel_rfl) rfl (by simp [Zm.cells, Value.oneCell']) ?_)
  have FZ2 : Hid ((w4.setRow z2 (⟨m, X % M, Y % M, bf⟩ : Zm).cells.toArray).heap[z2]? = some (.cells (⟨m, X % M, Y % M, bf⟩ : Zm).cells.toArray 28 (0, 0))) := setRow_heap _ _ _ _ _ _ F0.out
  have GL : Hid (Grow w6 (w4.setRow z2 (⟨m, X % M, Y % M, bf⟩ : Zm).cells.toArray)) := GL.out.row2 LZ.out.2 (⟨m, X % M, Y % M, bf⟩ : Zm).cells.toArray
  clear F0 LZ
  generalize w4.setRow z2 (⟨m, X % M, Y % M, bf⟩ : Zm).cells.toArray = w7 at *
  have GA := Lib.hid (GA.out.tr GL.out)
  have FZ := Lib.hid (grow_blk GL.out FZ.out)
  have FZ1 := Lib.hid (grow_blk GL.out FZ1.out)
  clear GL e2 e3 e4 e5 e6 hM
  simp only [Act.put]
  go_upto_region 7 with fail
  have FF : Hid (((w7.alloc (.cells #[.slice A l.length c] 33)).alloc (.cells #[.bool false, .int .u64 0, .int .i64 1, .slice (some ⟨w7.heap.size, 0, none⟩) 1 1, .slice none 0 0] 26)).heap[w7.heap.size + 1]? = some (.cells (⟨false, 0, 1, .slice (some ⟨w7.heap.size, 0, none⟩) 1 1, .slice none 0 0⟩ : Ft).cells.toArray 26 (0, 0))) := by
    have := heap_alloc_new (w7.alloc (.cells #[.slice A l.length c] 33)) (.cells #[.bool false, .int .u64 0, .int .i64 1, .slice (some ⟨w7.heap.size, 0, none⟩) 1 1, .slice none 0 0] 26)
    rwa [World.size_alloc] at this
  have GL : Hid (Grow w7 ((w7.alloc (.cells #[.slice A l.length c] 33)).alloc (.cells #[.bool false, .int .u64 0, .int .i64 1, .slice (some ⟨w7.heap.size, 0, none⟩) 1 1, .slice none 0 0] 26))) := ((Grow.refl _).al _).al _
  have RP : Hid (Rd ((w7.alloc (.cells #[.slice A l.length c] 33)).alloc (.cells #[.bool false, .int .u64 0, .int .i64 1, .slice (some ⟨w7.heap.size, 0, none⟩) 1 1, .slice none 0 0] 26)) (fun b => b = w7.heap.size) 1 (.slice (some ⟨w7.heap.size, 0, none⟩) 1 1) 1 [.slice A l.length c]) := (Rd.lit w7 #[.slice A l.length c] 33 1 (by decide) rfl : Rd _ _ 1 _ 1 [.slice A l.length c]).gr2 (by decide) ((Grow.refl _).al _)
  generalize (w7.alloc (.cells #[.slice A l.length c] 33)).alloc (.cells #[.bool false, .int .u64 0, .int .i64 1, .slice (some ⟨w7.heap.size, 0, none⟩) 1 1, .slice none 0 0] 26) = w8 at *
  generalize w7.heap.size = pb at *
  have FZ := Lib.hid (grow_blk GL.out FZ.out)
  have FZ1 := Lib.hid (grow_blk GL.out FZ1.out)
  have FZ2 := Lib.hid (grow_blk GL.out FZ2.out)
  have GA := Lib.hid (GA.out.tr GL.out)
  clear GL G0 PM s1
  have LR : Hid (∀ W, Grow w8 W → PRow.rd W (· < w.heap.size) ⟨.slice A l.length c, l⟩) := fun W h => HL.out.gr (by decide) (GA.out.tr h)
  have RR := Lib.hid fun W (R : Ending → World → Prop) hR => rright28_any ⟨u + m, X, Y, bf⟩ e W (R := R) hR
  have PR := Lib.hid fun W (h : Grow w8 W) (R : Ending → World → Prop) hR => rright9_any 1 (.slice (some ⟨pb, 0, none⟩) 1 1) [⟨.slice A l.length c, l⟩] _ _ W (RP.out.gr2 (by decide) h) (fun r hr => by rw [List.mem_singleton.1 hr]; exact LR.out W h) (R := R) hR
  have FC := Lib.hid fun z W (h : Grow w8 W) (hl : l.length ≤ 100) (R : Ending → World → Prop) hb ho => feature1_any (⟨false, 0, 1, .slice (some ⟨pb, 0, none⟩) 1 1, .slice none 0 0⟩ : Ft) z e [⟨.slice A l.length c, l⟩] 0 [] _ _ (fun _ => True) W (RP.out.gr2 (by decide) h) (fun r hr => by rw [List.mem_singleton.1 hr]; exact LR.out W h) (rd_nil W _ 4) (fun u hu => by simp at hu) (by omega) ⟨by simp, fun r hr => by rw [List.mem_singleton.1 hr]; show l.length ≤ _; omega⟩ (fun _ _ => rfl) (R := R) hb ho
  by_cases hl1 : 100 < l.length
  · have t1 : decide ((100 : Int) < (l.length : Int)) = true := by rw [decide_eq_true_eq]; omega
    go_wp2_with fail
    go_at_call 7
    refine live28_any _ ?_
    intro w9 hg9
    have G9 := Lib.hid (GA.out.tr hg9)
    clear hg9
    go_wp2
    exact HR.out _ G9.out
  · have t1 : decide ((100 : Int) < (l.length : Int)) = false := by rw [decide_eq_false_iff_not]; omega
    have q0 := PtZ.at_ FZ.out 0
    have q1 := PtZ.at_ FZ.out 1
    have q2 := PtZ.at_ FZ.out 2
    have q3 := PtZ.at_ FZ.out 3
    simp only [Zm.cells, List.getElem?_cons_zero, List.getElem?_cons_succ] at q0 q1 q2 q3
    go_wp2_with fail
    go_at_call 12
    refine RR.out _ _ ?_
    intro w9 hg9
    have G8 := Lib.hid hg9
    have FF := Lib.hid (grow_blk hg9 FF.out)
    have FZ := Lib.hid (grow_blk hg9 FZ.out)
    have FZ1 := Lib.hid (grow_blk hg9 FZ1.out)
    have FZ2 := Lib.hid (grow_blk hg9 FZ2.out)
    have GA := Lib.hid (GA.out.tr hg9)
    clear hg9 RR q0 q1 q2 q3
    cases hz : zright ⟨u + m, X, Y, bf⟩ e with
    | false =>
      clear hz
      go_wp2_with fail
      go_at_call 7
      refine live28_any _ ?_
      intro w9 hg9
      have G9 := Lib.hid (GA.out.tr hg9)
      clear hg9
      go_wp2
      exact HR.out _ G9.out
    | true =>
      have HZ := Lib.hid hz
      clear hz
      have f3 := cell_of_row _ (pb + 1) 3 _ _ (0, 0) FF.out
      unfold Ft.cells at f3
      simp only [List.getElem?_toArray, List.getElem?_cons_zero, List.getElem?_cons_succ] at f3
      go_wp2_with fail
      go_at_call 10
      refine PR.out _ G8.out _ ?_
      intro w10 hg10
      have G8 := Lib.hid (G8.out.tr hg10)
      have FF := Lib.hid (grow_blk hg10 FF.out)
      have FZ := Lib.hid (grow_blk hg10 FZ.out)
      have FZ1 := Lib.hid (grow_blk hg10 FZ1.out)
      have FZ2 := Lib.hid (grow_blk hg10 FZ2.out)
      have GA := Lib.hid (GA.out.tr hg10)
      clear hg10 PR f3
      by_cases hpr : pright 1 [⟨.slice A l.length c, l⟩] = 0
      · have HPR := Lib.hid hpr
        rw [hpr]
        clear hpr
        obtain ⟨zr1, zr2⟩ := steps_right hub hmb HMP.out HZ.out
        have HZ1 := Lib.hid zr1
        have HZ2 := Lib.hid zr2
        have TS : Hid (ptsIn ⟨m, X % M, Y % M, bf⟩ e (ptsIn ⟨u, X / M, Y / M, bf⟩ e l) = ptsIn ⟨u + m, X, Y, bf⟩ e l) := by
          obtain ⟨h1, -, -, -, h5, -⟩ := zright_iff HZ.out
          have := two_steps (up := u) (more := m) (X := X) (Y := Y) (b := bf) (e := e) (by omega) (by omega) h5 h1 l
          rw [HMP.out] at this
          exact this
        clear zr1 zr2 t1
        have L100 : Hid (l.length ≤ 100) := by show _ ≤ _; omega
        go_wp2_with (first | (refine wpList_load_row rfl 26 _ rfl (pb + 1) rfl 26 _ _ _ FF.out Try.underlying26 rfl (by kernel_rfl) ?_) | (refine wpList_load_row rfl 28 _ rfl z0 rfl 28 _ _ _ FZ.out Try.underlying28 rfl (by kernel_rfl) ?_))
        go_at_call 8
        refine FC.out _ _ G8.out L100.out _ ?_ ?_
        · intro hw w11 hg11
          have W0 : Hid (ptsIn ⟨u + m, X, Y, bf⟩ e l = []) := by
            show _ = _
            have h := hw HZ.out HPR.out
            rw [List.map_singleton, ptL_one] at h
            by_cases h0 : ptsIn ⟨u + m, X, Y, bf⟩ e l = []
            · exact h0
            · rw [if_neg h0] at h; cases h
          have G8 := Lib.hid (G8.out.tr hg11)
          have FF := Lib.hid (grow_blk hg11 FF.out)
          have FZ := Lib.hid (grow_blk hg11 FZ.out)
          have FZ1 := Lib.hid (grow_blk hg11 FZ1.out)
          have FZ2 := Lib.hid (grow_blk hg11 FZ2.out)
          have GA := Lib.hid (GA.out.tr hg11)
          clear hw hg11
          unfold zeroFt
          unfold Ft.cells
          dsimp only
          go_upto_region 10 with fail
          have GL : Hid (Grow w11 (w11.alloc (.cells #[.bool false, .int .u64 0, .int .i64 0, .slice none 0 0, .slice none 0 0] 26))) := (Grow.refl _).al _
          have F22 : Hid ((w11.alloc (.cells #[.bool false, .int .u64 0, .int .i64 0, .slice none 0 0, .slice none 0 0] 26)).heap[w11.heap.size]? = some (.cells (⟨false, 0, 0, .slice none 0 0, .slice none 0 0⟩ : Ft).cells.toArray 26 (0, 0))) := heap_alloc_new _ _
          generalize w11.alloc (.cells #[.bool false, .int .u64 0, .int .i64 0, .slice none 0 0, .slice none 0 0] 26) = w12 at *
          generalize w11.heap.size = b22 at *
          have FF := Lib.hid (grow_blk GL.out FF.out)
          have FZ := Lib.hid (grow_blk GL.out FZ.out)
          have FZ1 := Lib.hid (grow_blk GL.out FZ1.out)
          have FZ2 := Lib.hid (grow_blk GL.out FZ2.out)
          have GA := Lib.hid (GA.out.tr GL.out)
          have G8 := Lib.hid (G8.out.tr GL.out)
          clear F22 GL
          go_wp2_with (first | (refine wpList_load_row rfl 26 _ rfl (pb + 1) rfl 26 _ _ _ FF.out Try.underlying26 rfl (by kernel_rfl) ?_) | (refine wpList_load_row rfl 28 _ rfl z1 rfl 28 _ _ _ FZ1.out Try.underlying28 rfl (by kernel_rfl) ?_))
          go_at_call 8
          refine FC.out _ _ G8.out L100.out _ ?_ ?_
          · intro hw w13 hg13
            have G8 := Lib.hid (G8.out.tr hg13)
            have FF := Lib.hid (grow_blk hg13 FF.out)
            have FZ := Lib.hid (grow_blk hg13 FZ.out)
            have FZ1 := Lib.hid (grow_blk hg13 FZ1.out)
            have FZ2 := Lib.hid (grow_blk hg13 FZ2.out)
            have GA := Lib.hid (GA.out.tr hg13)
            clear hw hg13
            unfold zeroFt
            unfold Ft.cells
            dsimp only
            go_upto_region 11 with fail
            have GL : Hid (Grow w13 (w13.alloc (.cells #[.bool false, .int .u64 0, .int .i64 0, .slice none 0 0, .slice none 0 0] 26))) := (Grow.refl _).al _
            have F24 : Hid ((w13.alloc (.cells #[.bool false, .int .u64 0, .int .i64 0, .slice none 0 0, .slice none 0 0] 26)).heap[w13.heap.size]? = some (.cells (⟨false, 0, 0, .slice none 0 0, .slice none 0 0⟩ : Ft).cells.toArray 26 (0, 0))) := heap_alloc_new _ _
            generalize w13.alloc (.cells #[.bool false, .int .u64 0, .int .i64 0, .slice none 0 0, .slice none 0 0] 26) = w14 at *
            generalize w13.heap.size = b24 at *
            have FF := Lib.hid (grow_blk GL.out FF.out)
            have FZ := Lib.hid (grow_blk GL.out FZ.out)
            have FZ1 := Lib.hid (grow_blk GL.out FZ1.out)
            have FZ2 := Lib.hid (grow_blk GL.out FZ2.out)
            have GA := Lib.hid (GA.out.tr GL.out)
            have G8 := Lib.hid (G8.out.tr GL.out)
            clear GL
            go_wp2_with (first | (refine wpList_load_row rfl 26 _ rfl b24 rfl 26 _ _ _ F24.out Try.underlying26 rfl (by kernel_rfl) ?_) | (refine wpList_load_row rfl 28 _ rfl z2 rfl 28 _ _ _ FZ2.out Try.underlying28 rfl (by kernel_rfl) ?_))
            go_at_call 8
            refine feature1_any (⟨false, 0, 0, .slice none 0 0, .slice none 0 0⟩ : Ft) ⟨m, X % M, Y % M, bf⟩ e [] 0 [] (fun _ => True) (fun _ => True) (fun _ => True) w14 (rd_nil _ _ 1) (fun r hr => by simp at hr) (rd_nil _ _ 4) (fun u hu => by simp at hu) (by omega) ⟨by simp, fun r hr => by simp at hr⟩ (fun _ h => absurd h (by unfold pright; simp)) ?_ ?_
            · intro _ w15 hg15
              have GA := Lib.hid (GA.out.tr hg15)
              clear hg15 F24
              unfold zeroFt Ft.cells
              dsimp only
              go_wp2_with fail
              have GA := Lib.hid (GA.out.tr ((Grow.refl w15).al (.cells #[.bool false, .int .u64 0, .int .i64 0, .slice none 0 0, .slice none 0 0] 26)))
              go_at_call 7
              refine live28_any _ ?_
              intro w9 hg9
              have G9 := Lib.hid (GA.out.tr hg9)
              clear hg9
              go_wp2
              exact HR.out _ G9.out
            · intro _ h
              exact absurd h (by unfold pright; simp)
          · intro _ _ hne pv av rows w13 hg13 hp hr hrl hav
            have M1 : Hid (ptsIn ⟨u, X / M, Y / M, bf⟩ e l ≠ []) := by
              show _ ≠ _
              intro h0
              rw [List.map_singleton, ptL_one, if_pos h0] at hne
              exact hne rfl
            have PT1 : ptL ⟨u, X / M, Y / M, bf⟩ e ([(⟨.slice A l.length c, l⟩ : PRow)].map PRow.l) = [ptsIn ⟨u, X / M, Y / M, bf⟩ e l] := by rw [List.map_singleton, ptL_one, if_neg M1.out]
            have G8 := Lib.hid (G8.out.tr hg13)
            have FF := Lib.hid (grow_blk hg13 FF.out)
            have FZ := Lib.hid (grow_blk hg13 FZ.out)
            have FZ1 := Lib.hid (grow_blk hg13 FZ1.out)
            have FZ2 := Lib.hid (grow_blk hg13 FZ2.out)
            have GA := Lib.hid (GA.out.tr hg13)
            clear hg13 hne
            obtain ⟨q, hq⟩ : ∃ q, rows = [q] := by
              refine List.length_eq_one_iff.1 ?_
              have := congrArg List.length hrl
              rw [List.length_map, PT1, List.length_singleton] at this
              exact this
            subst hq
            rw [List.map_singleton, PT1, List.cons.injEq] at hrl
            have HQL := Lib.hid hrl.1
            have HQR := Lib.hid ((hr q (by simp)).lt (by decide))
            have hp' := hp.lt (by decide)
            have HQP := Lib.hid hp'
            obtain ⟨_, A5, c5, rfl, -, -, -, -⟩ := hp'
            have hav' := hav
            obtain ⟨_, A6, c6, rfl, -, -, -, -⟩ := hav
            have hav' := Lib.hid hav'
            rw [List.length_singleton]
            clear hp hr hrl
            clear PT1
            unfold Ft.cells
            dsimp only
            go_upto_region 11 with fail
            have GL : Hid (Grow w13 (w13.alloc (.cells #[.bool false, .int .u64 0, .int .i64 1, .slice A5 1 c5, .slice A6 0 c6] 26))) := (Grow.refl _).al _
            have F24 : Hid ((w13.alloc (.cells #[.bool false, .int .u64 0, .int .i64 1, .slice A5 1 c5, .slice A6 0 c6] 26)).heap[w13.heap.size]? = some (.cells (⟨false, 0, 1, .slice A5 1 c5, .slice A6 0 c6⟩ : Ft).cells.toArray 26 (0, 0))) := heap_alloc_new _ _
            generalize w13.alloc (.cells #[.bool false, .int .u64 0, .int .i64 1, .slice A5 1 c5, .slice A6 0 c6] 26) = w14 at *
            generalize w13.heap.size = b24 at *
            have FF := Lib.hid (grow_blk GL.out FF.out)
            have FZ := Lib.hid (grow_blk GL.out FZ.out)
            have FZ1 := Lib.hid (grow_blk GL.out FZ1.out)
            have FZ2 := Lib.hid (grow_blk GL.out FZ2.out)
            have GA := Lib.hid (GA.out.tr GL.out)
            have G8 := Lib.hid (G8.out.tr GL.out)
            have PQ : pright 1 [q] = 0 := by
              obtain ⟨qv, ql⟩ := q
              have h := HQL.out
              dsimp only at h
              subst h
              exact pright_mid HZ1.out M1.out
            have HPQ := Lib.hid PQ
            clear PQ
            go_wp2_with (first | (refine wpList_load_row rfl 26 _ rfl b24 rfl 26 _ _ _ F24.out Try.underlying26 rfl (by kernel_rfl) ?_) | (refine wpList_load_row rfl 28 _ rfl z2 rfl 28 _ _ _ FZ2.out Try.underlying28 rfl (by kernel_rfl) ?_))
            go_at_call 8
            refine feature1_any (⟨false, 0, 1, .slice A5 1 c5, .slice A6 0 c6⟩ : Ft) ⟨m, X % M, Y % M, bf⟩ e [q] 0 [] _ _ (fun _ => True) w14 (HQP.out.gr2 (by decide) GL.out) (fun r hr => by rw [List.mem_singleton.1 hr]; exact HQR.out.gr2 (by decide) GL.out) (hav'.out.gr2 (by decide) GL.out) (fun u hu => by simp at hu) (by omega) ⟨by simp, fun r hr => by rw [List.mem_singleton.1 hr, HQL.out]; exact ptsIn_len _ _ _ (by have := L100.out; omega)⟩ (fun _ _ => rfl) ?_ ?_
            · intro _ w15 hg15
              have GA := Lib.hid (GA.out.tr hg15)
              clear hg15 F24
              unfold zeroFt Ft.cells
              dsimp only
              go_wp2_with fail
              have GA := Lib.hid (GA.out.tr ((Grow.refl w15).al (.cells #[.bool false, .int .u64 0, .int .i64 0, .slice none 0 0, .slice none 0 0] 26)))
              go_at_call 7
              refine live28_any _ ?_
              intro w9 hg9
              have G9 := Lib.hid (GA.out.tr hg9)
              clear hg9
              go_wp2
              exact HR.out _ G9.out
            · intro _ _ hne
              exfalso
              apply hne
              rw [List.map_singleton, ptL_one, HQL.out, TS.out, if_pos W0.out]
        · intro _ _ hne pv av rows w11 hg11 hp hr hrl hav
          have W1 : Hid (ptsIn ⟨u + m, X, Y, bf⟩ e l ≠ []) := by
            show _ ≠ _
            intro h0
            rw [List.map_singleton, ptL_one, if_pos h0] at hne
            exact hne rfl
          have PT0 : ptL ⟨u + m, X, Y, bf⟩ e ([(⟨.slice A l.length c, l⟩ : PRow)].map PRow.l) = [ptsIn ⟨u + m, X, Y, bf⟩ e l] := by rw [List.map_singleton, ptL_one, if_neg W1.out]
          have G8 := Lib.hid (G8.out.tr hg11)
          have FF := Lib.hid (grow_blk hg11 FF.out)
          have FZ := Lib.hid (grow_blk hg11 FZ.out)
          have FZ1 := Lib.hid (grow_blk hg11 FZ1.out)
          have FZ2 := Lib.hid (grow_blk hg11 FZ2.out)
          have GA := Lib.hid (GA.out.tr hg11)
          clear hg11 hne
          obtain ⟨q0, hq0⟩ : ∃ q, rows = [q] := by
            refine List.length_eq_one_iff.1 ?_
            have := congrArg List.length hrl
            rw [List.length_map, PT0, List.length_singleton] at this
            exact this
          subst hq0
          rw [List.map_singleton, PT0, List.cons.injEq] at hrl
          have HQL0 := Lib.hid hrl.1
          have HQR0 := Lib.hid ((hr q0 (by simp)).lt (by decide))
          have hp' := hp.lt (by decide)
          have HQP0 := Lib.hid hp'
          obtain ⟨_, A3, c3, rfl, -, -, -, -⟩ := hp'
          have hav' := hav
          obtain ⟨_, A4, c4, rfl, -, -, -, -⟩ := hav
          have hav' := Lib.hid hav'
          rw [List.length_singleton]
          clear hp hr hrl
          clear PT0 hav'
          unfold Ft.cells
          dsimp only
          go_upto_region 10 with fail
          have GL : Hid (Grow w11 (w11.alloc (.cells #[.bool false, .int .u64 0, .int .i64 1, .slice A3 1 c3, .slice A4 0 c4] 26))) := (Grow.refl _).al _
          have F22 : Hid ((w11.alloc (.cells #[.bool false, .int .u64 0, .int .i64 1, .slice A3 1 c3, .slice A4 0 c4] 26)).heap[w11.heap.size]? = some (.cells (⟨false, 0, 1, .slice A3 1 c3, .slice A4 0 c4⟩ : Ft).cells.toArray 26 (0, 0))) := heap_alloc_new _ _
          generalize w11.alloc (.cells #[.bool false, .int .u64 0, .int .i64 1, .slice A3 1 c3, .slice A4 0 c4] 26) = w12 at *
          generalize w11.heap.size = b22 at *
          have FF := Lib.hid (grow_blk GL.out FF.out)
          have FZ := Lib.hid (grow_blk GL.out FZ.out)
          have FZ1 := Lib.hid (grow_blk GL.out FZ1.out)
          have FZ2 := Lib.hid (grow_blk GL.out FZ2.out)
          have GA := Lib.hid (GA.out.tr GL.out)
          have G8 := Lib.hid (G8.out.tr GL.out)
          have HQR0 := Lib.hid fun W (h : Grow w12 W) => (HQR0.out.gr2 (by decide) (GL.out.tr h) : PRow.rd W _ q0)
          have HQP0 := Lib.hid fun W (h : Grow w12 W) => HQP0.out.gr2 (by decide) (GL.out.tr h)
          have GG : Hid (Grow w12 w12) := Grow.refl _
          clear GL
          go_wp2_with (first | (refine wpList_load_row rfl 26 _ rfl (pb + 1) rfl 26 _ _ _ FF.out Try.underlying26 rfl (by kernel_rfl) ?_) | (refine wpList_load_row rfl 28 _ rfl z1 rfl 28 _ _ _ FZ1.out Try.underlying28 rfl (by kernel_rfl) ?_))
          go_at_call 8
          refine FC.out _ _ G8.out L100.out _ ?_ ?_
          · intro hw
            exfalso
            have h := hw HZ1.out HPR.out
            rw [List.map_singleton, ptL_one] at h
            by_cases h0 : ptsIn ⟨u, X / M, Y / M, bf⟩ e l = []
            · apply W1.out
              rw [← TS.out, h0]
              rfl
            · rw [if_neg h0] at h; cases h
          · intro _ _ hne pv av rows w13 hg13 hp hr hrl hav
            have M1 : Hid (ptsIn ⟨u, X / M, Y / M, bf⟩ e l ≠ []) := by
              show _ ≠ _
              intro h0
              rw [List.map_singleton, ptL_one, if_pos h0] at hne
              exact hne rfl
            have PT1 : ptL ⟨u, X / M, Y / M, bf⟩ e ([(⟨.slice A l.length c, l⟩ : PRow)].map PRow.l) = [ptsIn ⟨u, X / M, Y / M, bf⟩ e l] := by rw [List.map_singleton, ptL_one, if_neg M1.out]
            have G8 := Lib.hid (G8.out.tr hg13)
            have GG := Lib.hid (GG.out.tr hg13)
            have F22 := Lib.hid (grow_blk hg13 F22.out)
            have FF := Lib.hid (grow_blk hg13 FF.out)
            have FZ := Lib.hid (grow_blk hg13 FZ.out)
            have FZ1 := Lib.hid (grow_blk hg13 FZ1.out)
            have FZ2 := Lib.hid (grow_blk hg13 FZ2.out)
            have GA := Lib.hid (GA.out.tr hg13)
            clear hg13 hne
            obtain ⟨q, hq⟩ : ∃ q, rows = [q] := by
              refine List.length_eq_one_iff.1 ?_
              have := congrArg List.length hrl
              rw [List.length_map, PT1, List.length_singleton] at this
              exact this
            subst hq
            rw [List.map_singleton, PT1, List.cons.injEq] at hrl
            have HQL := Lib.hid hrl.1
            have HQR := Lib.hid ((hr q (by simp)).lt (by decide))
            have hp' := hp.lt (by decide)
            have HQP := Lib.hid hp'
            obtain ⟨_, A5, c5, rfl, -, -, -, -⟩ := hp'
            have hav' := hav
            obtain ⟨_, A6, c6, rfl, -, -, -, -⟩ := hav
            have hav' := Lib.hid hav'
            rw [List.length_singleton]
            clear hp hr hrl
            clear PT1
            unfold Ft.cells
            dsimp only
            go_upto_region 11 with fail
            have GL : Hid (Grow w13 (w13.alloc (.cells #[.bool false, .int .u64 0, .int .i64 1, .slice A5 1 c5, .slice A6 0 c6] 26))) := (Grow.refl _).al _
            have F24 : Hid ((w13.alloc (.cells #[.bool false, .int .u64 0, .int .i64 1, .slice A5 1 c5, .slice A6 0 c6] 26)).heap[w13.heap.size]? = some (.cells (⟨false, 0, 1, .slice A5 1 c5, .slice A6 0 c6⟩ : Ft).cells.toArray 26 (0, 0))) := heap_alloc_new _ _
            generalize w13.alloc (.cells #[.bool false, .int .u64 0, .int .i64 1, .slice A5 1 c5, .slice A6 0 c6] 26) = w14 at *
            generalize w13.heap.size = b24 at *
            have FF := Lib.hid (grow_blk GL.out FF.out)
            have FZ := Lib.hid (grow_blk GL.out FZ.out)
            have FZ1 := Lib.hid (grow_blk GL.out FZ1.out)
            have FZ2 := Lib.hid (grow_blk GL.out FZ2.out)
            have GA := Lib.hid (GA.out.tr GL.out)
            have G8 := Lib.hid (G8.out.tr GL.out)
            have GG := Lib.hid (GG.out.tr GL.out)
            have F22 := Lib.hid (grow_blk GL.out F22.out)
            have PQ : pright 1 [q] = 0 := by
              obtain ⟨qv, ql⟩ := q
              have h := HQL.out
              dsimp only at h
              subst h
              exact pright_mid HZ1.out M1.out
            have HPQ := Lib.hid PQ
            clear PQ
            go_wp2_with (first | (refine wpList_load_row rfl 26 _ rfl b24 rfl 26 _ _ _ F24.out Try.underlying26 rfl (by kernel_rfl) ?_) | (refine wpList_load_row rfl 28 _ rfl z2 rfl 28 _ _ _ FZ2.out Try.underlying28 rfl (by kernel_rfl) ?_))
            go_at_call 8
            refine feature1_any (⟨false, 0, 1, .slice A5 1 c5, .slice A6 0 c6⟩ : Ft) ⟨m, X % M, Y % M, bf⟩ e [q] 0 [] _ _ (fun _ => True) w14 (HQP.out.gr2 (by decide) GL.out) (fun r hr => by rw [List.mem_singleton.1 hr]; exact HQR.out.gr2 (by decide) GL.out) (hav'.out.gr2 (by decide) GL.out) (fun u hu => by simp at hu) (by omega) ⟨by simp, fun r hr => by rw [List.mem_singleton.1 hr, HQL.out]; exact ptsIn_len _ _ _ (by have := L100.out; omega)⟩ (fun _ _ => rfl) ?_ ?_
            · intro hw
              exfalso
              have h := hw HZ2.out HPQ.out
              rw [List.map_singleton, ptL_one, HQL.out, TS.out, if_neg W1.out] at h
              cases h
            · intro _ _ hne pv av rows w15 hg15 hp hr hrl hav
              have PT2 : ptL ⟨m, X % M, Y % M, bf⟩ e ([q].map PRow.l) = [ptsIn ⟨u + m, X, Y, bf⟩ e l] := by rw [List.map_singleton, ptL_one, HQL.out, TS.out, if_neg W1.out]
              have G8 := Lib.hid (G8.out.tr hg15)
              have GG := Lib.hid (GG.out.tr hg15)
              have F22 := Lib.hid (grow_blk hg15 F22.out)
              have FF := Lib.hid (grow_blk hg15 FF.out)
              have FZ := Lib.hid (grow_blk hg15 FZ.out)
              have FZ1 := Lib.hid (grow_blk hg15 FZ1.out)
              have FZ2 := Lib.hid (grow_blk hg15 FZ2.out)
              have GA := Lib.hid (GA.out.tr hg15)
              clear hg15 hne HQP HQR hav' GL
              obtain ⟨q3, hq3⟩ : ∃ q, rows = [q] := by
                refine List.length_eq_one_iff.1 ?_
                have := congrArg List.length hrl
                rw [List.length_map, PT2, List.length_singleton] at this
                exact this
              subst hq3
              rw [List.map_singleton, PT2, List.cons.injEq] at hrl
              have HQL3 := Lib.hid hrl.1
              have HQR3 := Lib.hid ((hr q3 (by simp)).lt (by decide))
              have hp' := hp.lt (by decide)
              have HQP3 := Lib.hid hp'
              obtain ⟨_, A7, c7, rfl, -, -, -, -⟩ := hp'
              have hav' := hav
              obtain ⟨_, A8, c8, rfl, -, -, -, -⟩ := hav
              have hav' := Lib.hid hav'
              rw [List.length_singleton]
              clear hp hr hrl
              clear PT2 hav'
              unfold Ft.cells
              dsimp only
              go_upto_region 12 with fail
              have GL : Hid (Grow w15 (w15.alloc (.cells #[.bool false, .int .u64 0, .int .i64 1, .slice A7 1 c7, .slice A8 0 c8] 26))) := (Grow.refl _).al _
              have F26 : Hid ((w15.alloc (.cells #[.bool false, .int .u64 0, .int .i64 1, .slice A7 1 c7, .slice A8 0 c8] 26)).heap[w15.heap.size]? = some (.cells (⟨false, 0, 1, .slice A7 1 c7, .slice A8 0 c8⟩ : Ft).cells.toArray 26 (0, 0))) := heap_alloc_new _ _
              generalize w15.alloc (.cells #[.bool false, .int .u64 0, .int .i64 1, .slice A7 1 c7, .slice A8 0 c8] 26) = w16 at *
              generalize w15.heap.size = b26 at *
              have FF := Lib.hid (grow_blk GL.out FF.out)
              have FZ := Lib.hid (grow_blk GL.out FZ.out)
              have FZ1 := Lib.hid (grow_blk GL.out FZ1.out)
              have FZ2 := Lib.hid (grow_blk GL.out FZ2.out)
              have GA := Lib.hid (GA.out.tr GL.out)
              have G8 := Lib.hid (G8.out.tr GL.out)
              have GG := Lib.hid (GG.out.tr GL.out)
              have F22 := Lib.hid (grow_blk GL.out F22.out)
              have f22 := cell_of_row _ b22 3 _ _ (0, 0) F22.out
              have f26 := cell_of_row _ b26 3 _ _ (0, 0) F26.out
              unfold Ft.cells at f22 f26
              simp only [List.getElem?_toArray, List.getElem?_cons_zero, List.getElem?_cons_succ] at f22 f26
              have SM := Lib.hid fun (R : Ending → World → Prop) hR => rsame9_any (.slice A3 1 c3) (.slice A7 1 c7) [q0] [q3] _ _ _ _ w16 (HQP0.out _ GG.out) (fun r hr => by rw [List.mem_singleton.1 hr]; exact HQR0.out _ GG.out) (HQP3.out.gr2 (by decide) GL.out) (fun r hr => by rw [List.mem_singleton.1 hr]; exact HQR3.out.gr2 (by decide) GL.out) (R := R) hR
              rw [decide_eq_true (show [q0].map PRow.l = [q3].map PRow.l by rw [List.map_singleton, List.map_singleton, HQL0.out, HQL3.out])] at SM
              clear GG HQP0 HQR0 HQP3 HQR3
              go_wp2_with fail
              go_at_call 13
              refine SM.out _ ?_
              intro w17 hg17
              have GA := Lib.hid (GA.out.tr hg17)
              clear hg17 f22 f26
              go_wp2_with fail
              go_at_call 7
              refine live28_any _ ?_
              intro w9 hg9
              have G9 := Lib.hid (GA.out.tr hg9)
              clear hg9
              go_wp2
              exact HR.out _ G9.out
      · have tp : (pright 1 [⟨.slice A l.length c, l⟩] != 0) = true := by rw [bne_iff_ne]; exact hpr
        generalize pright 1 [⟨.slice A l.length c, l⟩] = pr at *
        clear hpr
        go_wp2_with fail
        go_at_call 7
        refine live28_any _ ?_
        intro w9 hg9
        have G9 := Lib.hid (GA.out.tr hg9)
        clear hg9
        go_wp2
        exact HR.out _ G9.out
end Go.Proofs.Ytfdjdfobhkmlpaa
