/-
  Whole numbers of words: Sub, Cmp, Int.
-/
import Derived.Test.YtjcgkhcbdbbdkaaChecked
import Derived.Test.YtjcgkhcbdbbdkaaBigO
namespace Go.Proofs.Ytjcgkhcbdbbdkaa
open Go.RowKit Go.Lib B



theorem BigR.parts {w : World} {S : Nat → Prop} {v : Value} {z : Int} {k : Nat} (h : BigR w S v z k) : ∃ p A n c, v = .agg #[.bool p, .slice A n c] := by
  obtain ⟨_, m, rfl, hm⟩ := h
  obtain ⟨A, c, rfl, _, _⟩ := rd_slice hm
  exact ⟨_, _, _, _, rfl⟩

set_option maxRecDepth 100000 in
set_option maxHeartbeats 2000000 in
theorem sub_any (x y : Int) (k1 k2 : Nat) (a b : Value) (S T : Nat → Prop) (w : World) (ha : BigR w S a x k1) (hb : BigR w T b y k2) (hk1 : k1 ≤ 30000) (hk2 : k2 ≤ 30000) {R : Ending → World → Prop}
    (hR : ∀ r w', Grow w w' → BigR w' (fun b => w.heap.size ≤ b) r (x - y) (max k1 k2 + 1) → R (.returned r) w') :
    Calls Try.prog 76 #[a, b] w R := by
  rw [Int.sub_eq_add_neg] at hR
  have HR := Lib.hid hR
  clear hR
  obtain ⟨p, A1, n1, c1, rfl⟩ := ha.parts
  obtain ⟨q, A2, n2, c2, rfl⟩ := hb.parts
  have HA := Lib.hid ha
  have HB := Lib.hid hb
  clear ha hb
  obtain ⟨wa, hwa⟩ : ∃ wa, wa = (((w.alloc (.cells #[.bool p, .slice A1 n1 c1] 33)).alloc (.cells #[.bool q, .slice A2 n2 c2] 33)).alloc (.cells #[.bool false, .slice none 0 0] 33)) := ⟨_, rfl⟩
  have K0 : Hid (∀ W, Grow wa W → W.heap[w.heap.size]? = some (.cells #[.bool p, .slice A1 n1 c1] 33 (0, 0))) := fun W h => by
    subst hwa
    exact blk_al w _ _ ((((Grow.refl _).al _).al _).tr h)
  have K1 : Hid (∀ W, Grow wa W → W.heap[w.heap.size + 1]? = some (.cells #[.bool q, .slice A2 n2 c2] 33 (0, 0))) := fun W h => by
    subst hwa
    have := blk_al (w.alloc (.cells #[.bool p, .slice A1 n1 c1] 33)) _ _ (((Grow.refl _).al _).tr h)
    rwa [World.size_alloc] at this
  have K2 : Hid (∀ W, Grow wa W → W.heap[w.heap.size + 1 + 1]? = some (.cells #[.bool false, .slice none 0 0] 33 (0, 0))) := fun W h => by
    subst hwa
    have := blk_al _ _ _ h
    rwa [World.size_alloc, World.size_alloc] at this
  have GA : Hid (Grow w wa) := by
    subst hwa
    exact (((Grow.refl w).al _).al _).al _
  have GS : Hid (wa.heap.size = w.heap.size + 3) := by
    subst hwa
    show _ = _
    rw [World.size_alloc, World.size_alloc, World.size_alloc]
  go_enter Try.func76, Try.ntmps76
  go_wp2_with fail
  rw [← hwa]
  clear hwa
  refine wp_region_lexT (Grow wa) ((Grow.refl wa).dr) 3 [0, 1, 2] (by kernel_rfl) (by kernel_rfl) (by intro c a d v w h; cases d <;> exact h) ?_
  iterate 2 (apply lext_take; exact rfl; exact rfl; (intro W hW; have z0 := cell_of_row _ w.heap.size 0 _ _ (0, 0) (K0.out _ hW); have z1 := cell_of_row _ w.heap.size 1 _ _ (0, 0) (K0.out _ hW); have y0 := cell_of_row _ (w.heap.size + 1) 0 _ _ (0, 0) (K1.out _ hW); have y1 := cell_of_row _ (w.heap.size + 1) 1 _ _ (0, 0) (K1.out _ hW); (try clear hW); go_simp; with_reducible rfl); try simp only [Act.put, List.setIfInBounds_toArray, List.set_cons_zero, List.set_cons_succ])
  apply lext_turn; exact rfl; exact rfl; exact rfl; intro K hK; go_simp; go_at_call 93; refine neg_any y k2 _ _ _ (HB.out.gr (GA.out.tr (Grow.refl wa).dr)) (by omega) ?_; intro r4 w4 hg4 hr4
  have G4 := Lib.hid ((Grow.refl wa).dr.tr hg4)
  have HR4 := Lib.hid hr4
  refine hK.out _ _ G4.out ?_
  clear hK hg4 hr4
  try simp only [Act.put, List.setIfInBounds_toArray, List.set_cons_zero, List.set_cons_succ]
  refine lext_nil ?_
  simp only [List.drop_succ_cons, List.drop_zero]
  go_wp2_with fail
  go_at_call 60
  refine add_any x (-y) k1 k2 _ _ _ _ w4 (HA.out.gr (GA.out.tr G4.out)) HR4.out hk1 hk2 ?_
  intro r w5 hg5 hr
  have hb3 := K2.out w5 (G4.out.tr hg5)
  have G5 := Lib.hid (G4.out.tr hg5)
  have SZ4 : Hid (∀ b, w4.heap.size ≤ b → w.heap.size + 3 ≤ b) := fun b hb => by have := G4.out.size; have := GS.out; omega
  clear hg5
  obtain ⟨hk3, m3, rfl, hm3⟩ := hr
  obtain ⟨A3, c3, rfl, g31, g32⟩ := rd_slice hm3
  have HM3 := Lib.hid hm3
  generalize hn3 : (wds ((x + -y)).natAbs).length = n3 at *
  have HN3 := Lib.hid hn3
  have HK3 := Lib.hid hk3
  clear hm3 hk3 hn3
  generalize hq : decide ((x + -y) < 0) = q3 at *
  have HQ := Lib.hid hq
  clear hq
  have c0 := cell_of_row _ (w.heap.size + 1 + 1) 0 _ _ (0, 0) hb3
  have f0 := frozen_of_row _ (w.heap.size + 1 + 1) 0 _ _ hb3
  have b1 := blk_set hb3 0 (.bool q3)
  have c1 := cell_of_row _ (w.heap.size + 1 + 1) 1 _ _ (0, 0) b1
  have f1 := frozen_of_row _ (w.heap.size + 1 + 1) 1 _ _ b1
  have b2 := blk_set b1 1 (.slice A3 n3 c3)
  have r0 := cell_of_row _ (w.heap.size + 1 + 1) 0 _ _ (0, 0) b2
  have r1 := cell_of_row _ (w.heap.size + 1 + 1) 1 _ _ (0, 0) b2
  simp only [List.setIfInBounds_toArray, List.set_cons_zero, List.set_cons_succ] at c0 c1 r0 r1
  clear b1 b2
  clear hb3
  go_wp2
  refine bodyPost_ret (v := .agg #[.bool q3, .slice A3 n3 c3]) (by simp [results, Try.f76, go_sem, r0, r1]) rfl (HR.out _ _ ?_ ?_)
  · exact grow_set2 (by omega) (GA.out.tr G5.out) _ _
  · refine ⟨by rw [HN3.out]; exact HK3.out, _, by rw [HQ.out], ?_⟩
    rw [HN3.out]
    exact ((HM3.out.set (fun b hb => by have := SZ4.out b hb; omega) _).set (fun b hb => by have := SZ4.out b hb; omega) _).into fun b hb => by have := SZ4.out b hb; omega

set_option maxRecDepth 100000 in
set_option maxHeartbeats 1000000 in
theorem cmp_any (x y : Int) (k1 k2 : Nat) (a b : Value) (S T : Nat → Prop) (w : World) (ha : BigR w S a x k1) (hb : BigR w T b y k2) (hk1 : k1 ≤ 30000) (hk2 : k2 ≤ 30000) {R : Ending → World → Prop}
    (hR : ∀ w', Grow w w' → R (.returned (.int .i64 (x - y).sign)) w') :
    Calls Try.prog 65 #[a, b] w R := by
  have HR := Lib.hid hR
  clear hR
  obtain ⟨p, A1, n1, c1, rfl⟩ := ha.parts
  obtain ⟨q, A2, n2, c2, rfl⟩ := hb.parts
  have HA := Lib.hid ha
  have HB := Lib.hid hb
  clear ha hb
  go_enter Try.func65, Try.ntmps65
  go_wp2_with fail
  have GA := Lib.hid (((Grow.refl w).al (.cells #[.bool p, .slice A1 n1 c1] 33)).al (.cells #[.bool q, .slice A2 n2 c2] 33))
  go_at_call 76
  refine sub_any x y k1 k2 _ _ _ _ _ (HA.out.gr GA.out) (HB.out.gr GA.out) hk1 hk2 ?_
  intro r w4 hg4 hr4
  have G4 := Lib.hid (GA.out.tr hg4)
  have HR4 := Lib.hid hr4
  clear hg4 hr4
  go_wp2_with fail
  go_at_call 95
  refine sign_any (x - y) _ _ _ w4 HR4.out (by omega) ?_
  intro w5 hg5
  have G5 := Lib.hid (G4.out.tr hg5)
  clear hg5
  go_wp2
  exact HR.out _ G5.out

theorem wds_int {n : Int} (h : I64 n) : (wds n.natAbs).length ≤ 4 := by
  refine wds_len_le 4 _ ?_
  have e : 65536 ^ 4 = 18446744073709551616 := by decide
  obtain ⟨h1, h2⟩ := h
  omega

set_option maxRecDepth 100000 in
set_option maxHeartbeats 2000000 in
theorem int_any (n : Int) (w : World) (hn : I64 n) {R : Ending → World → Prop}
    (hR : ∀ v w', Grow w w' → BigR w' (fun b => w.heap.size ≤ b) v n 4 → R (.returned v) w') :
    Calls Try.prog 62 #[.int .i64 n] w R := by
  have HR := Lib.hid hR
  clear hR
  have HI := Lib.hid (wds_int hn)
  obtain ⟨n1, n2⟩ := hn
  by_cases h0 : n < 0
  · obtain ⟨m, hm⟩ : ∃ m : Nat, (m : Int) = -(n + 1) := ⟨(-(n + 1)).toNat, by omega⟩
    obtain rfl : n = -(m : Int) - 1 := by omega
    have e1 : (-(m : Int) - 1 + 1) = -(m : Int) := by omega
    have t0 : decide (-(m : Int) - 1 < 0) = true := by simp; omega
    clear hm h0
    go_enter Try.func62, Try.ntmps62
    go_wp2_with fail
    go_at_call 59
    clear t0
    refine word_any m _ (by omega) ?_
    intro r4 w4 hg4 hr4
    obtain ⟨p, A4, n4, c4, rfl⟩ := hr4.parts
    have G4 := Lib.hid hg4
    have HR4 := Lib.hid hr4
    clear hg4 hr4
    go_wp2_with fail
    have GB := Lib.hid ((Grow.refl w4).al (.cells #[.bool p, .slice A4 n4 c4] 33))
    go_at_call 93
    refine neg_any m 4 _ _ _ (HR4.out.gr GB.out) (by omega) ?_
    intro r5 w5 hg5 hr5
    have G5 := Lib.hid ((G4.out.tr GB.out).tr hg5)
    have HR5 := Lib.hid hr5
    clear hg5 hr5
    go_wp2_with fail
    go_at_call 59
    refine word_any 1 _ (by omega) ?_
    intro r6 w6 hg6 hr6
    have G6 := Lib.hid (G5.out.tr hg6)
    have HR5 := Lib.hid (HR5.out.gr hg6)
    have HR6 := Lib.hid hr6
    clear hg6 hr6
    go_wp2_with fail
    go_at_call 76
    refine sub_any (-(m : Int)) ((1 : Nat) : Int) 4 4 _ _ _ _ w6 HR5.out HR6.out (by omega) (by omega) ?_
    intro r w7 hg7 hr
    have G7 := Lib.hid (G6.out.tr hg7)
    have hb3 := blk_al _ _ _ G7.out
    have SZ6 : Hid (∀ b, w6.heap.size ≤ b → w.heap.size + 1 ≤ b) := fun b hb => by have := G6.out.size; rw [World.size_alloc] at this; omega
    clear hg7
    obtain ⟨hk3, m3, rfl, hm3⟩ := hr
    obtain ⟨A3, c3, rfl, g31, g32⟩ := rd_slice hm3
    have HM3 := Lib.hid hm3
    generalize hn3 : (wds ((-(m : Int) - ((1 : Nat) : Int))).natAbs).length = n3 at *
    have HN3 := Lib.hid hn3
    have HK3 := Lib.hid hk3
    clear hm3 hk3 hn3
    generalize hq : decide ((-(m : Int) - ((1 : Nat) : Int)) < 0) = q3 at *
    have HQ := Lib.hid hq
    clear hq
    have c0 := cell_of_row _ (w.heap.size) 0 _ _ (0, 0) hb3
    have f0 := frozen_of_row _ (w.heap.size) 0 _ _ hb3
    have b1 := blk_set hb3 0 (.bool q3)
    have c1 := cell_of_row _ (w.heap.size) 1 _ _ (0, 0) b1
    have f1 := frozen_of_row _ (w.heap.size) 1 _ _ b1
    have b2 := blk_set b1 1 (.slice A3 n3 c3)
    have r0 := cell_of_row _ (w.heap.size) 0 _ _ (0, 0) b2
    have r1 := cell_of_row _ (w.heap.size) 1 _ _ (0, 0) b2
    simp only [List.setIfInBounds_toArray, List.set_cons_zero, List.set_cons_succ] at c0 c1 r0 r1
    clear b1 b2
    clear hb3
    go_wp2
    refine bodyPost_ret (v := .agg #[.bool q3, .slice A3 n3 c3]) (by simp [results, Try.f62, go_sem, r0, r1]) rfl (HR.out _ _ ?_ ?_)
    · exact grow_set2 (by omega) (((Grow.refl w).al _).tr G7.out) _ _
    · refine ⟨by have := HI.out; have := HN3.out; simp only [Int.natCast_one] at this; omega, _, by rw [← HQ.out]; rfl, ?_⟩
      have hn3 := HN3.out
      simp only [Int.natCast_one] at hn3
      rw [hn3]
      exact ((HM3.out.set (fun b hb => by have := SZ6.out b hb; omega) _).set (fun b hb => by have := SZ6.out b hb; omega) _).into fun b hb => by have := SZ6.out b hb; omega
  · obtain ⟨m, rfl⟩ : ∃ m : Nat, n = m := ⟨n.toNat, by omega⟩
    clear h0
    go_enter Try.func62, Try.ntmps62
    go_wp2_with fail
    go_at_call 59
    refine word_any m _ (by omega) ?_
    intro r w7 hg7 hr
    have G7 := Lib.hid hg7
    have hb3 := blk_al _ _ _ G7.out
    clear hg7
    obtain ⟨hk3, m3, rfl, hm3⟩ := hr
    obtain ⟨A3, c3, rfl, g31, g32⟩ := rd_slice hm3
    have HM3 := Lib.hid hm3
    generalize hn3 : (wds (((m : Nat) : Int)).natAbs).length = n3 at *
    have HN3 := Lib.hid hn3
    have HK3 := Lib.hid hk3
    clear hm3 hk3 hn3
    generalize hq : decide (((m : Nat) : Int) < 0) = q3 at *
    have HQ := Lib.hid hq
    clear hq
    have c0 := cell_of_row _ (w.heap.size) 0 _ _ (0, 0) hb3
    have f0 := frozen_of_row _ (w.heap.size) 0 _ _ hb3
    have b1 := blk_set hb3 0 (.bool q3)
    have c1 := cell_of_row _ (w.heap.size) 1 _ _ (0, 0) b1
    have f1 := frozen_of_row _ (w.heap.size) 1 _ _ b1
    have b2 := blk_set b1 1 (.slice A3 n3 c3)
    have r0 := cell_of_row _ (w.heap.size) 0 _ _ (0, 0) b2
    have r1 := cell_of_row _ (w.heap.size) 1 _ _ (0, 0) b2
    simp only [List.setIfInBounds_toArray, List.set_cons_zero, List.set_cons_succ] at c0 c1 r0 r1
    clear b1 b2
    clear hb3
    go_wp2
    refine bodyPost_ret (v := .agg #[.bool q3, .slice A3 n3 c3]) (by simp [results, Try.f62, go_sem, r0, r1]) rfl (HR.out _ _ ?_ ?_)
    · exact grow_set2 (by omega) (((Grow.refl w).al _).tr G7.out) _ _
    · refine ⟨by rw [HN3.out]; exact HI.out, _, by rw [HQ.out], ?_⟩
      rw [HN3.out]
      exact ((HM3.out.set (fun b hb => by have := hb; rw [World.size_alloc] at this; omega) _).set (fun b hb => by have := hb; rw [World.size_alloc] at this; omega) _).into fun b hb => by have := hb; rw [World.size_alloc] at this; omega
end Go.Proofs.Ytjcgkhcbdbbdkaa
