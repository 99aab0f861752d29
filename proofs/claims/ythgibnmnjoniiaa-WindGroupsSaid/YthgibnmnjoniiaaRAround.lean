import Derived.Test.YthgibnmnjoniiaaAround
namespace Go.Proofs.Ythgibnmnjoniiaa
open Go.RowKit B

theorem btw_mul (a b p : Int) : decide ((p - a) * (p - b) ≤ 0) = (decide (min a b ≤ p) && decide (p ≤ max a b)) := by
  rw [Bool.eq_iff_iff]
  simp only [decide_eq_true_eq, Bool.and_eq_true]
  constructor
  · intro h
    refine ⟨?_, ?_⟩
    · rcases Int.lt_or_le p (min a b) with h1 | h1
      · have := Int.mul_pos_of_neg_of_neg (show p - a < 0 by omega) (show p - b < 0 by omega)
        omega
      · exact h1
    · rcases Int.lt_or_le (max a b) p with h1 | h1
      · have := Int.mul_pos (show 0 < p - a by omega) (show 0 < p - b by omega)
        omega
      · exact h1
  · rintro ⟨h1, h2⟩
    rcases Int.le_total a b with h | h
    · have := Int.mul_nonneg (show 0 ≤ p - a by omega) (show 0 ≤ b - p by omega)
      have e : (p - a) * (p - b) = -((p - a) * (b - p)) := by rw [← Int.mul_neg, Int.neg_sub]
      omega
    · have := Int.mul_nonneg (show 0 ≤ a - p by omega) (show 0 ≤ p - b by omega)
      have e : (p - a) * (p - b) = -((a - p) * (p - b)) := by rw [← Int.neg_mul, Int.neg_sub]
      omega
theorem onB_mul (a b p : Pt) : onB a b p = (decide ((p.x - a.x) * (p.x - b.x) ≤ 0) && decide ((p.y - a.y) * (p.y - b.y) ≤ 0)) := by
  rw [btw_mul, btw_mul, onB]
  simp only [Bool.and_assoc]
theorem area_three (a b p : Pt) (ha : a.inr = true) (hb : b.inr = true) (hp : p.inr = true) : rightL [a, b, p] = true ∧ areaV [a, b, p] = sideI a b p := by
  have h1 : rightL [a, b, p] = true := by simp [rightL, ha, hb, hp]
  refine ⟨h1, ?_⟩
  rw [areaV, if_pos h1]
  have : edgesL [a, b, p] = [(a, b), (b, p), (p, a)] := by simp [edgesL, List.range, List.range.loop]
  rw [areaOf, this]
  simp only [areaS, crossT, sideI]
  grind

set_option maxRecDepth 100000 in
set_option maxHeartbeats 8000000 in
theorem raround_any (l : List Pt) (p : Pt) (v : Value) (S : Nat → Prop) (w : World) (hb : Rd w S 2 v l.length (Pts l)) {R : Ending → World → Prop}
    (hR : ∀ w', Grow w w' → R (.returned (.tuple #[.int .i64 (arN l p), .bool (arB l p)])) w') :
    Calls Try.prog 17 #[v, .agg p.cells.toArray] w R := by
  have hb := hb.lt (by decide)
  have HW := Lib.hid fun W (h : Grow w W) (R : Ending → World → Prop) hR => rright27_any l v _ W (hb.gr2 (by decide) h) (R := R) hR
  have HO := Lib.hid fun W (R : Ending → World → Prop) hR => rin27_any p W (R := R) hR
  by_cases hc : rightL l = true ∧ p.inr = true
  · have hA : arN l p = (if (edgesL l).any (touch p) = true then 0 else sumP (delta p) (edgesL l)) ∧ arB l p = !(edgesL l).any (touch p) := by simp [arN, arB, hc.1, hc.2]
    rw [hA.1, hA.2] at hR
    have HR := Lib.hid hR
    have hlen : l.length ≤ 262144 := by have := hc.1; simp [rightL] at this; exact this.1
    have hir : ∀ q ∈ l, q.inr = true := by
      intro q hq
      have := hc.1
      simp only [rightL, Bool.and_eq_true, List.all_eq_true] at this
      exact this.2 q hq
    have HIR := Lib.hid hir
    have HPR := Lib.hid hc.2
    have hpp := Pt.inr_iff.1 hc.2
    rw [hc.1] at HW
    rw [hc.2] at HO
    have HL3 : Hid (∀ (a b : Pt), a.inr = true → b.inr = true → ∀ (W : World) (B : Nat) (v : Value), Rd W (fun b => b = B) 2 v 3 (Pts [a, b, p]) → ∀ (R : Ending → World → Prop), (∀ w', Grow W w' → R (.returned (.tuple #[.int .i64 (sideI a b p), .bool true])) w') → Calls Try.prog 31 #[v] W R) := by
      intro a b ha hb W B v h R hR
      refine rarea_any [a, b, p] v (fun b => b = B) W h ?_
      rw [(area_three a b p ha hb hc.2).1, (area_three a b p ha hb hc.2).2]
      exact hR
    clear hR hA hc hir
    obtain ⟨_, A, c, rfl, k1, k2, -, k4⟩ := hb
    unfold maxLen at k2
    obtain ⟨p1, p2⟩ := p
    dsimp only at hpp
    obtain ⟨⟨pa, pb⟩, pc, pd⟩ := hpp
    unfold Pt.cells at HO ⊢
    dsimp only at HO ⊢
    have HBX : Hid ((w.alloc (.cells #[.int .i64 p1, .int .i64 p2] 24)).heap[w.heap.size]? = some (.cells #[.int .i64 p1, .int .i64 p2] 24 (0, 0))) := heap_alloc_new _ _
    go_enter Try.func17, Try.ntmps17
    go_wp2_with (go_at_call 76; refine HW.out _ ((Grow.refl w).al _) _ ?_; intro w1 hg1; have cp1 := cell_of_row w1 w.heap.size 0 _ _ (0, 0) (grow_blk hg1 HBX.out); have cp2 := cell_of_row w1 w.heap.size 1 _ _ (0, 0) (grow_blk hg1 HBX.out); have G1 := Lib.hid hg1; clear hg1)
    go_wp2_with (go_at_call 77; refine HO.out _ _ ?_; intro w2 hg2; have G2 := Lib.hid (G1.out.tr hg2); clear hg2 cp1 cp2)
    go_loopw [7, 6] (fun i n wr => ∃ (k : Nat) (x : Int), k ≤ l.length ∧ i = .int .i64 k ∧ n = .int .i64 x ∧ Hid (x = sumP (delta ⟨p1, p2⟩) ((edgesL l).take k)) ∧ (-(k : Int) ≤ x ∧ x ≤ k) ∧ Hid (∀ y ∈ (edgesL l).take k, touch ⟨p1, p2⟩ y = false) ∧ Hid (Grow w wr) ∧ Hid (wr.heap[w.heap.size]? = some (.cells #[.int .i64 p1, .int .i64 p2] 24 (0, 0)))) (fun i _ _ => l.length - (intOf i).toNat)
    case atStart => exact ⟨0, 0, Nat.zero_le _, rfl, rfl, rfl, by omega, by intro y hy; simp at hy, ((Grow.refl w).al _).tr G2.out, grow_blk G2.out HBX.out⟩
    case round =>
      obtain ⟨k, x, hk, rfl, rfl, hs, hbx, ht, hg, hbp⟩ := hrel
      by_cases hlt : k < l.length
      · obtain ⟨b, o, rfl, hS, hc⟩ := k4 (by omega)
        have hm : (k + 1) % l.length < l.length := Nat.mod_lt _ (by omega)
        have LT : b < wr.heap.size := Nat.lt_of_lt_of_le hS hg.out.size
        have HED : Hid ((edgesL l).take (k + 1) = (edgesL l).take k ++ [(l[k]'hlt, l[(k + 1) % l.length]'hm)]) := by
          show _ = _
          rw [List.take_succ_eq_append_getElem (by rw [edgesL_len]; exact hlt), edgesL_at hlt]
        have HME : Hid ((l[k]'hlt, l[(k + 1) % l.length]'hm) ∈ edgesL l) := by
          show _ ∈ _
          rw [← edgesL_at hlt]; exact List.getElem_mem _
        have e1 := fun W (h : Grow wr W) => flat_cells Pt.cells_len (hg.out.tr h) hS hc hlt
        have e2 := fun W (h : Grow wr W) => flat_cells Pt.cells_len (hg.out.tr h) hS hc hm
        have w1 : IntKind.i64.wrap ((k : Int) + 1) = (k : Int) + 1 := IntWalk.i64_in _ (by omega)
        have w2 : ((k : Int) + 1).tmod (l.length : Int) = (((k + 1) % l.length : Nat) : Int) := by
          rw [Int.tmod_eq_emod_of_nonneg (by omega)]; exact (Int.natCast_emod (k + 1) l.length).symm
        have w3 : ((k : Int) + 1) % (l.length : Int) = (((k + 1) % l.length : Nat) : Int) := (Int.natCast_emod (k + 1) l.length).symm
        have z1 : ((l.length : Int) == 0) = false := by rw [beq_eq_false_iff_ne]; omega
        have z2 : ¬ (l.length : Int) = 0 := by omega
        have z3 : ¬ l = [] := by rintro rfl; simp at hlt
        have i1 := HIR.out _ (List.getElem_mem hlt)
        have i2 := HIR.out _ (List.getElem_mem hm)
        clear hc k4
        generalize (k + 1) % l.length = m at *
        generalize l[k]'hlt = a at *
        generalize l[m]'hm = q at *
        obtain ⟨a1, a2⟩ := a
        obtain ⟨q1, q2⟩ := q
        have C1 : Hid (∀ W, Grow wr W → W.cell? ⟨b, o + k * 2, none⟩ = some (.int .i64 a1) ∧ W.cell? ⟨b, o + k * 2 + 1, none⟩ = some (.int .i64 a2)) := fun W h => ⟨e1 W h 0 _ rfl, e1 W h 1 _ rfl⟩
        have C2 : Hid (∀ W, Grow wr W → W.cell? ⟨b, o + m * 2, none⟩ = some (.int .i64 q1) ∧ W.cell? ⟨b, o + m * 2 + 1, none⟩ = some (.int .i64 q2)) := fun W h => ⟨e2 W h 0 _ rfl, e2 W h 1 _ rfl⟩
        clear e1 e2
        have HA3 : Hid (∀ (W : World) (R : Ending → World → Prop), (∀ w', Grow W w' → R (.returned (.tuple #[.int .i64 (sideI ⟨a1, a2⟩ ⟨q1, q2⟩ ⟨p1, p2⟩), .bool true])) w') → Calls Try.prog 31 #[.slice (some ⟨W.heap.size, 0, none⟩) 3 3] (W.alloc (.cells #[.int .i64 a1, .int .i64 a2, .int .i64 q1, .int .i64 q2, .int .i64 p1, .int .i64 p2] 24)) R) := by
          intro W R hR
          exact HL3.out ⟨a1, a2⟩ ⟨q1, q2⟩ i1 i2 _ _ _ (Rd.laid (w := W) (size := 2) #[.int .i64 a1, .int .i64 a2, .int .i64 q1, .int .i64 q2, .int .i64 p1, .int .i64 p2] 24 (0, 0) 3 (by decide) rfl (Grow.refl _)) R (fun w' hg => hR w' (grow_al hg))
        have j1 := Pt.inr_iff.1 i1
        have j2 := Pt.inr_iff.1 i2
        dsimp only at j1 j2
        have HSN : Hid (∀ d, delta ⟨p1, p2⟩ (⟨a1, a2⟩, ⟨q1, q2⟩) = d → x + d = sumP (delta ⟨p1, p2⟩) ((edgesL l).take (k + 1))) := by
          rintro d rfl
          rw [HED.out, sumP_snoc, ← hs.out]
        have HTF : Hid (touch ⟨p1, p2⟩ (⟨a1, a2⟩, ⟨q1, q2⟩) = false → ∀ y ∈ (edgesL l).take (k + 1), touch ⟨p1, p2⟩ y = false) := by
          intro h y hy
          rw [HED.out] at hy
          rcases List.mem_append.1 hy with h1 | h1
          · exact ht.out y h1
          · rw [List.mem_singleton.1 h1]; exact h
        have HTT : Hid (touch ⟨p1, p2⟩ (⟨a1, a2⟩, ⟨q1, q2⟩) = true → (edgesL l).any (touch ⟨p1, p2⟩) = true) := fun h => List.any_eq_true.2 ⟨_, HME.out, h⟩
        have TE : Hid (touch ⟨p1, p2⟩ (⟨a1, a2⟩, ⟨q1, q2⟩) = (decide (sideI ⟨a1, a2⟩ ⟨q1, q2⟩ ⟨p1, p2⟩ = 0) && (decide ((p1 - a1) * (p1 - q1) ≤ 0) && decide ((p2 - a2) * (p2 - q2) ≤ 0)))) := by
          show _ = _
          rw [touch, onB_mul]
        have DE : Hid (delta ⟨p1, p2⟩ (⟨a1, a2⟩, ⟨q1, q2⟩) = if (decide (a2 ≤ p2) && decide (p2 < q2) && decide (0 < sideI ⟨a1, a2⟩ ⟨q1, q2⟩ ⟨p1, p2⟩)) = true then 1 else if (decide (p2 < a2) && decide (q2 ≤ p2) && decide (sideI ⟨a1, a2⟩ ⟨q1, q2⟩ ⟨p1, p2⟩ < 0)) = true then -1 else 0) := rfl
        have m1 := mul_bd2 (a := p1 - a1) (b := p1 - q1) (by omega) (by omega)
        have m2 := mul_bd2 (a := p2 - a2) (b := p2 - q2) (by omega) (by omega)
        obtain ⟨⟨g1, g2⟩, g3, g4⟩ := j1
        obtain ⟨⟨g5, g6⟩, g7, g8⟩ := j2
        clear HED HME ht hs i1 i2 HL3
        generalize hdd : delta ⟨p1, p2⟩ (⟨a1, a2⟩, ⟨q1, q2⟩) = d at *
        generalize htt : touch ⟨p1, p2⟩ (⟨a1, a2⟩, ⟨q1, q2⟩) = tc at *
        generalize hss : sideI ⟨a1, a2⟩ ⟨q1, q2⟩ ⟨p1, p2⟩ = s at *
        clear hdd htt hss
        have SE : Hid (s = 0 ∨ ¬ s = 0) := Decidable.em _
        go_wp2
        refine wp_region_heldW (Grow wr) (by kernel_rfl) 16 rfl ?_
        apply held_take (i := 0); exact rfl; exact rfl; kernel_rfl; (intro W hW; (try clear hW); go_simp; with_reducible rfl); try simp only [Act.put, List.setIfInBounds_toArray, List.set_cons_zero, List.set_cons_succ]
        apply held_take (i := 1); exact rfl; exact rfl; kernel_rfl; (intro W hW; (try clear hW); go_simp; with_reducible rfl); try simp only [Act.put, List.setIfInBounds_toArray, List.set_cons_zero, List.set_cons_succ]
        apply held_take (i := 2); exact rfl; exact rfl; kernel_rfl; (intro W hW; (try clear hW); go_simp; with_reducible rfl); try simp only [Act.put, List.setIfInBounds_toArray, List.set_cons_zero, List.set_cons_succ]
        apply held_take (i := 3); exact rfl; exact rfl; kernel_rfl; (intro W hW; obtain ⟨y1, y2⟩ := C1.out W hW; (try clear hW); go_simp; with_reducible rfl); try simp only [Act.put, List.setIfInBounds_toArray, List.set_cons_zero, List.set_cons_succ]
        apply held_take (i := 4); exact rfl; exact rfl; kernel_rfl; (intro W hW; (try clear hW); go_simp; with_reducible rfl); try simp only [Act.put, List.setIfInBounds_toArray, List.set_cons_zero, List.set_cons_succ]
        apply held_take (i := 5); exact rfl; exact rfl; kernel_rfl; (intro W hW; (try clear hW); go_simp; with_reducible rfl); try simp only [Act.put, List.setIfInBounds_toArray, List.set_cons_zero, List.set_cons_succ]
        apply held_take (i := 6); exact rfl; exact rfl; kernel_rfl; (intro W hW; (try clear hW); go_simp; with_reducible rfl); try simp only [Act.put, List.setIfInBounds_toArray, List.set_cons_zero, List.set_cons_succ]
        apply held_take (i := 7); exact rfl; exact rfl; kernel_rfl; (intro W hW; (try clear hW); go_simp; with_reducible rfl); try simp only [Act.put, List.setIfInBounds_toArray, List.set_cons_zero, List.set_cons_succ]
        apply held_take (i := 8); exact rfl; exact rfl; kernel_rfl; (intro W hW; (try clear hW); go_simp; with_reducible rfl); try simp only [Act.put, List.setIfInBounds_toArray, List.set_cons_zero, List.set_cons_succ]
        apply held_take (i := 9); exact rfl; exact rfl; kernel_rfl; (intro W hW; (try clear hW); go_simp; with_reducible rfl); try simp only [Act.put, List.setIfInBounds_toArray, List.set_cons_zero, List.set_cons_succ]
        apply held_take (i := 10); exact rfl; exact rfl; kernel_rfl; (intro W hW; (try clear hW); go_simp; with_reducible rfl); try simp only [Act.put, List.setIfInBounds_toArray, List.set_cons_zero, List.set_cons_succ]
        apply held_take (i := 11); exact rfl; exact rfl; kernel_rfl; (intro W hW; obtain ⟨y1, y2⟩ := C2.out W hW; (try clear hW); go_simp; with_reducible rfl); try simp only [Act.put, List.setIfInBounds_toArray, List.set_cons_zero, List.set_cons_succ]
        refine held_all (rs := [12, 13]) (by intro c a d v w h; cases d <;> exact h) (Grow.refl _).dr (by kernel_rfl) rfl ?_
        intro i hi
        rcases List.mem_cons.1 hi with rfl | hi
        · clear hi
          apply held_turn; exact rfl; exact rfl; intro K hK; go_simp; refine hK.out _ _ ?_; clear hK; try simp only [Act.put, List.setIfInBounds_toArray, List.set_cons_zero, List.set_cons_succ]
          refine held_all (rs := [13]) (by intro c a d v w h; cases d <;> exact h) (((Grow.refl wr).al _).dr) (by kernel_rfl) rfl ?_; intro i hi; obtain rfl := List.mem_singleton.1 hi; clear hi
          apply held_turn; exact rfl; exact rfl; intro K hK; go_simp; refine hK.out _ _ ?_; clear hK; try simp only [Act.put, List.setIfInBounds_toArray, List.set_cons_zero, List.set_cons_succ]
          refine held_all (rs := [14]) (by intro c a d v w h; cases d <;> exact h) ((((Grow.refl wr).al _).al _).dr) (by kernel_rfl) rfl ?_; intro i hi; obtain rfl := List.mem_singleton.1 hi; clear hi
          apply held_turn; exact rfl; exact rfl; intro K hK; go_simp; refine hK.out _ _ ?_; clear hK; try simp only [Act.put, List.setIfInBounds_toArray, List.set_cons_zero, List.set_cons_succ]
          refine held_all (rs := [15]) (by intro c a d v w h; cases d <;> exact h) ((((Grow.refl wr).al _).al _).dr) (by kernel_rfl) rfl ?_; intro i hi; obtain rfl := List.mem_singleton.1 hi; clear hi
          apply held_turn; exact rfl; exact rfl; intro K hK; go_simp; refine hK.out _ _ ?_; clear hK; try simp only [Act.put, List.setIfInBounds_toArray, List.set_cons_zero, List.set_cons_succ]
          refine held_done (by intro c a d v w h; cases d <;> exact h) ((((Grow.refl wr).al _).al _).dr) (by kernel_rfl) ?_
          have HB7 : Hid ((((wr.alloc (.cells #[.int .i64 a1, .int .i64 a2] 24)).alloc (.cells #[.int .i64 q1, .int .i64 q2] 24)).drew).heap[wr.heap.size]? = some (.cells #[.int .i64 a1, .int .i64 a2] 24 (0, 0))) := (blk_al (heap_alloc_new _ _) _)
          have HB8 : Hid ((((wr.alloc (.cells #[.int .i64 a1, .int .i64 a2] 24)).alloc (.cells #[.int .i64 q1, .int .i64 q2] 24)).drew).heap[(wr.heap.size + 1)]? = some (.cells #[.int .i64 q1, .int .i64 q2] 24 (0, 0))) := (by have := heap_alloc_new (wr.alloc (.cells #[.int .i64 a1, .int .i64 a2] 24)) (.cells #[.int .i64 q1, .int .i64 q2] 24); rw [World.size_alloc] at this; exact this)
          have GW : Hid (Grow wr (((wr.alloc (.cells #[.int .i64 a1, .int .i64 a2] 24)).alloc (.cells #[.int .i64 q1, .int .i64 q2] 24)).drew)) := (((Grow.refl wr).al _).al _).dr
          have HBP := Lib.hid (grow_blk GW.out hbp.out)
          generalize ((wr.alloc (.cells #[.int .i64 a1, .int .i64 a2] 24)).alloc (.cells #[.int .i64 q1, .int .i64 q2] 24)).drew = W at *
          have r1 := cell_of_row W wr.heap.size 0 _ _ (0, 0) HB7.out
          have r2 := cell_of_row W wr.heap.size 1 _ _ (0, 0) HB7.out
          have r3 := cell_of_row W (wr.heap.size + 1) 0 _ _ (0, 0) HB8.out
          have r4 := cell_of_row W (wr.heap.size + 1) 1 _ _ (0, 0) HB8.out
          have r5 := cell_of_row W w.heap.size 0 _ _ (0, 0) HBP.out
          have r6 := cell_of_row W w.heap.size 1 _ _ (0, 0) HBP.out
          go_wp2_with fail
          refine HA3.out W _ ?_
          intro w4 hg4
          have HBV := Lib.hid (grow_blk hg4 HBP.out)
          have GF := Lib.hid (hg.out.tr (GW.out.tr hg4))
          have t1 := cell_of_row w4 wr.heap.size 0 _ _ (0, 0) (grow_blk hg4 HB7.out)
          have t2 := cell_of_row w4 wr.heap.size 1 _ _ (0, 0) (grow_blk hg4 HB7.out)
          have t3 := cell_of_row w4 (wr.heap.size + 1) 0 _ _ (0, 0) (grow_blk hg4 HB8.out)
          have t4 := cell_of_row w4 (wr.heap.size + 1) 1 _ _ (0, 0) (grow_blk hg4 HB8.out)
          have t5 := cell_of_row w4 w.heap.size 0 _ _ (0, 0) HBV.out
          have t6 := cell_of_row w4 w.heap.size 1 _ _ (0, 0) HBV.out
          clear hg4 r1 r2 r3 r4 r5 r6
          rcases SE.out with hs0 | hs0
          · have hs1 : (s == 0) = true := by simp [hs0]
            cases hx : decide ((p1 - a1) * (p1 - q1) ≤ 0) with
            | false =>
              have HTC : Hid (tc = false) := by show tc = false; rw [TE.out, hx]; simp
              go_wp2
              all_goals (go_roundw)
              all_goals first
                | (show _ < _; simp [intOf]; omega)
                | exact ⟨k + 1, x, by omega, by go_num, rfl, (by have := HSN.out 0 (by rw [DE.out]; simp only [Bool.and_eq_true, decide_eq_true_eq]; (repeat' split) <;> omega); rwa [Int.add_zero] at this), by omega, HTF.out HTC.out, GF.out, HBV.out⟩
                | exact ⟨k + 1, x + 1, by omega, by go_num, rfl, HSN.out 1 (by rw [DE.out]; simp only [Bool.and_eq_true, decide_eq_true_eq]; (repeat' split) <;> omega), by omega, HTF.out HTC.out, GF.out, HBV.out⟩
                | exact ⟨k + 1, x - 1, by omega, by go_num, rfl, HSN.out (-1) (by rw [DE.out]; simp only [Bool.and_eq_true, decide_eq_true_eq]; (repeat' split) <;> omega), by omega, HTF.out HTC.out, GF.out, HBV.out⟩
            | true =>
              cases hy : decide ((p2 - a2) * (p2 - q2) ≤ 0) with
              | false =>
                have HTC : Hid (tc = false) := by show tc = false; rw [TE.out, hx, hy]; simp
                go_wp2
                all_goals (go_roundw)
                all_goals first
                  | (show _ < _; simp [intOf]; omega)
                  | exact ⟨k + 1, x, by omega, by go_num, rfl, (by have := HSN.out 0 (by rw [DE.out]; simp only [Bool.and_eq_true, decide_eq_true_eq]; (repeat' split) <;> omega); rwa [Int.add_zero] at this), by omega, HTF.out HTC.out, GF.out, HBV.out⟩
                  | exact ⟨k + 1, x + 1, by omega, by go_num, rfl, HSN.out 1 (by rw [DE.out]; simp only [Bool.and_eq_true, decide_eq_true_eq]; (repeat' split) <;> omega), by omega, HTF.out HTC.out, GF.out, HBV.out⟩
                  | exact ⟨k + 1, x - 1, by omega, by go_num, rfl, HSN.out (-1) (by rw [DE.out]; simp only [Bool.and_eq_true, decide_eq_true_eq]; (repeat' split) <;> omega), by omega, HTF.out HTC.out, GF.out, HBV.out⟩
              | true =>
                have hq := HTT.out (by rw [TE.out, hx, hy]; simp [hs0])
                have h := HR.out _ GF.out
                rw [hq] at h
                have HH := Lib.hid h
                clear h hq
                go_wp2
                exact HH.out
          · have hs1 : (s == 0) = false := by simp [hs0]
            have HTC : Hid (tc = false) := by show tc = false; rw [TE.out]; simp [hs0]
            go_wp2
            all_goals (go_roundw)
            all_goals first
              | (show _ < _; simp [intOf]; omega)
              | exact ⟨k + 1, x, by omega, by go_num, rfl, (by have := HSN.out 0 (by rw [DE.out]; simp only [Bool.and_eq_true, decide_eq_true_eq]; (repeat' split) <;> omega); rwa [Int.add_zero] at this), by omega, HTF.out HTC.out, GF.out, HBV.out⟩
              | exact ⟨k + 1, x + 1, by omega, by go_num, rfl, HSN.out 1 (by rw [DE.out]; simp only [Bool.and_eq_true, decide_eq_true_eq]; (repeat' split) <;> omega), by omega, HTF.out HTC.out, GF.out, HBV.out⟩
              | exact ⟨k + 1, x - 1, by omega, by go_num, rfl, HSN.out (-1) (by rw [DE.out]; simp only [Bool.and_eq_true, decide_eq_true_eq]; (repeat' split) <;> omega), by omega, HTF.out HTC.out, GF.out, HBV.out⟩
        · obtain rfl := List.mem_singleton.1 hi
          clear hi
          apply held_turn; exact rfl; exact rfl; intro K hK; go_simp; refine hK.out _ _ ?_; clear hK; try simp only [Act.put, List.setIfInBounds_toArray, List.set_cons_zero, List.set_cons_succ]
          refine held_all (rs := [12]) (by intro c a d v w h; cases d <;> exact h) (((Grow.refl wr).al _).dr) (by kernel_rfl) rfl ?_; intro i hi; obtain rfl := List.mem_singleton.1 hi; clear hi
          apply held_turn; exact rfl; exact rfl; intro K hK; go_simp; refine hK.out _ _ ?_; clear hK; try simp only [Act.put, List.setIfInBounds_toArray, List.set_cons_zero, List.set_cons_succ]
          refine held_all (rs := [14]) (by intro c a d v w h; cases d <;> exact h) ((((Grow.refl wr).al _).al _).dr) (by kernel_rfl) rfl ?_; intro i hi; obtain rfl := List.mem_singleton.1 hi; clear hi
          apply held_turn; exact rfl; exact rfl; intro K hK; go_simp; refine hK.out _ _ ?_; clear hK; try simp only [Act.put, List.setIfInBounds_toArray, List.set_cons_zero, List.set_cons_succ]
          refine held_all (rs := [15]) (by intro c a d v w h; cases d <;> exact h) ((((Grow.refl wr).al _).al _).dr) (by kernel_rfl) rfl ?_; intro i hi; obtain rfl := List.mem_singleton.1 hi; clear hi
          apply held_turn; exact rfl; exact rfl; intro K hK; go_simp; refine hK.out _ _ ?_; clear hK; try simp only [Act.put, List.setIfInBounds_toArray, List.set_cons_zero, List.set_cons_succ]
          refine held_done (by intro c a d v w h; cases d <;> exact h) ((((Grow.refl wr).al _).al _).dr) (by kernel_rfl) ?_
          have HB7 : Hid ((((wr.alloc (.cells #[.int .i64 q1, .int .i64 q2] 24)).alloc (.cells #[.int .i64 a1, .int .i64 a2] 24)).drew).heap[(wr.heap.size + 1)]? = some (.cells #[.int .i64 a1, .int .i64 a2] 24 (0, 0))) := (by have := heap_alloc_new (wr.alloc (.cells #[.int .i64 q1, .int .i64 q2] 24)) (.cells #[.int .i64 a1, .int .i64 a2] 24); rw [World.size_alloc] at this; exact this)
          have HB8 : Hid ((((wr.alloc (.cells #[.int .i64 q1, .int .i64 q2] 24)).alloc (.cells #[.int .i64 a1, .int .i64 a2] 24)).drew).heap[wr.heap.size]? = some (.cells #[.int .i64 q1, .int .i64 q2] 24 (0, 0))) := (blk_al (heap_alloc_new _ _) _)
          have GW : Hid (Grow wr (((wr.alloc (.cells #[.int .i64 q1, .int .i64 q2] 24)).alloc (.cells #[.int .i64 a1, .int .i64 a2] 24)).drew)) := (((Grow.refl wr).al _).al _).dr
          have HBP := Lib.hid (grow_blk GW.out hbp.out)
          generalize ((wr.alloc (.cells #[.int .i64 q1, .int .i64 q2] 24)).alloc (.cells #[.int .i64 a1, .int .i64 a2] 24)).drew = W at *
          have r1 := cell_of_row W (wr.heap.size + 1) 0 _ _ (0, 0) HB7.out
          have r2 := cell_of_row W (wr.heap.size + 1) 1 _ _ (0, 0) HB7.out
          have r3 := cell_of_row W wr.heap.size 0 _ _ (0, 0) HB8.out
          have r4 := cell_of_row W wr.heap.size 1 _ _ (0, 0) HB8.out
          have r5 := cell_of_row W w.heap.size 0 _ _ (0, 0) HBP.out
          have r6 := cell_of_row W w.heap.size 1 _ _ (0, 0) HBP.out
          go_wp2_with fail
          refine HA3.out W _ ?_
          intro w4 hg4
          have HBV := Lib.hid (grow_blk hg4 HBP.out)
          have GF := Lib.hid (hg.out.tr (GW.out.tr hg4))
          have t1 := cell_of_row w4 (wr.heap.size + 1) 0 _ _ (0, 0) (grow_blk hg4 HB7.out)
          have t2 := cell_of_row w4 (wr.heap.size + 1) 1 _ _ (0, 0) (grow_blk hg4 HB7.out)
          have t3 := cell_of_row w4 wr.heap.size 0 _ _ (0, 0) (grow_blk hg4 HB8.out)
          have t4 := cell_of_row w4 wr.heap.size 1 _ _ (0, 0) (grow_blk hg4 HB8.out)
          have t5 := cell_of_row w4 w.heap.size 0 _ _ (0, 0) HBV.out
          have t6 := cell_of_row w4 w.heap.size 1 _ _ (0, 0) HBV.out
          clear hg4 r1 r2 r3 r4 r5 r6
          rcases SE.out with hs0 | hs0
          · have hs1 : (s == 0) = true := by simp [hs0]
            cases hx : decide ((p1 - a1) * (p1 - q1) ≤ 0) with
            | false =>
              have HTC : Hid (tc = false) := by show tc = false; rw [TE.out, hx]; simp
              go_wp2
              all_goals (go_roundw)
              all_goals first
                | (show _ < _; simp [intOf]; omega)
                | exact ⟨k + 1, x, by omega, by go_num, rfl, (by have := HSN.out 0 (by rw [DE.out]; simp only [Bool.and_eq_true, decide_eq_true_eq]; (repeat' split) <;> omega); rwa [Int.add_zero] at this), by omega, HTF.out HTC.out, GF.out, HBV.out⟩
                | exact ⟨k + 1, x + 1, by omega, by go_num, rfl, HSN.out 1 (by rw [DE.out]; simp only [Bool.and_eq_true, decide_eq_true_eq]; (repeat' split) <;> omega), by omega, HTF.out HTC.out, GF.out, HBV.out⟩
                | exact ⟨k + 1, x - 1, by omega, by go_num, rfl, HSN.out (-1) (by rw [DE.out]; simp only [Bool.and_eq_true, decide_eq_true_eq]; (repeat' split) <;> omega), by omega, HTF.out HTC.out, GF.out, HBV.out⟩
            | true =>
              cases hy : decide ((p2 - a2) * (p2 - q2) ≤ 0) with
              | false =>
                have HTC : Hid (tc = false) := by show tc = false; rw [TE.out, hx, hy]; simp
                go_wp2
                all_goals (go_roundw)
                all_goals first
                  | (show _ < _; simp [intOf]; omega)
                  | exact ⟨k + 1, x, by omega, by go_num, rfl, (by have := HSN.out 0 (by rw [DE.out]; simp only [Bool.and_eq_true, decide_eq_true_eq]; (repeat' split) <;> omega); rwa [Int.add_zero] at this), by omega, HTF.out HTC.out, GF.out, HBV.out⟩
                  | exact ⟨k + 1, x + 1, by omega, by go_num, rfl, HSN.out 1 (by rw [DE.out]; simp only [Bool.and_eq_true, decide_eq_true_eq]; (repeat' split) <;> omega), by omega, HTF.out HTC.out, GF.out, HBV.out⟩
                  | exact ⟨k + 1, x - 1, by omega, by go_num, rfl, HSN.out (-1) (by rw [DE.out]; simp only [Bool.and_eq_true, decide_eq_true_eq]; (repeat' split) <;> omega), by omega, HTF.out HTC.out, GF.out, HBV.out⟩
              | true =>
                have hq := HTT.out (by rw [TE.out, hx, hy]; simp [hs0])
                have h := HR.out _ GF.out
                rw [hq] at h
                have HH := Lib.hid h
                clear h hq
                go_wp2
                exact HH.out
          · have hs1 : (s == 0) = false := by simp [hs0]
            have HTC : Hid (tc = false) := by show tc = false; rw [TE.out]; simp [hs0]
            go_wp2
            all_goals (go_roundw)
            all_goals first
              | (show _ < _; simp [intOf]; omega)
              | exact ⟨k + 1, x, by omega, by go_num, rfl, (by have := HSN.out 0 (by rw [DE.out]; simp only [Bool.and_eq_true, decide_eq_true_eq]; (repeat' split) <;> omega); rwa [Int.add_zero] at this), by omega, HTF.out HTC.out, GF.out, HBV.out⟩
              | exact ⟨k + 1, x + 1, by omega, by go_num, rfl, HSN.out 1 (by rw [DE.out]; simp only [Bool.and_eq_true, decide_eq_true_eq]; (repeat' split) <;> omega), by omega, HTF.out HTC.out, GF.out, HBV.out⟩
              | exact ⟨k + 1, x - 1, by omega, by go_num, rfl, HSN.out (-1) (by rw [DE.out]; simp only [Bool.and_eq_true, decide_eq_true_eq]; (repeat' split) <;> omega), by omega, HTF.out HTC.out, GF.out, HBV.out⟩
      · obtain rfl : k = l.length := by omega
        have hs2 := hs.out
        have ht2 := ht.out
        rw [List.take_of_length_le (by rw [edgesL_len]; exact Nat.le_refl _)] at hs2 ht2
        have hany : (edgesL l).any (touch ⟨p1, p2⟩) = false := by
          rw [List.any_eq_false]
          intro y hy
          rw [ht2 y hy]
          decide
        have h := HR.out _ hg.out
        rw [hany, ← hs2] at h
        have HH := Lib.hid h
        clear h hany hs2 ht2 hs ht k4
        go_wp2
        exact HH.out
  · have hA : arN l p = 0 ∧ arB l p = false := by
      have : (rightL l && p.inr) = false := by
        cases h1 : rightL l <;> cases h2 : p.inr <;> simp_all
      simp [arN, arB, this]
    rw [hA.1, hA.2] at hR
    have HR := Lib.hid hR
    have hO : rightL l = true → p.inr = false := by
      intro h; cases h2 : p.inr
      · rfl
      · exact absurd ⟨h, h2⟩ hc
    clear hR hA hc hb
    obtain ⟨p1, p2⟩ := p
    unfold Pt.cells at HO ⊢
    dsimp only at HO ⊢
    have HBX : Hid ((w.alloc (.cells #[.int .i64 p1, .int .i64 p2] 24)).heap[w.heap.size]? = some (.cells #[.int .i64 p1, .int .i64 p2] 24 (0, 0))) := heap_alloc_new _ _
    cases hr : rightL l with
    | false =>
      rw [hr] at HW
      clear hr hO
      go_enter Try.func17, Try.ntmps17
      go_wp2_with (go_at_call 76; refine HW.out _ ((Grow.refl w).al _) _ ?_; intro w1 hg1; have G1 := Lib.hid hg1; clear hg1)
      exact HR.out _ (((Grow.refl w).al _).tr G1.out)
    | true =>
      rw [hO hr] at HO
      rw [hr] at HW
      clear hr hO
      go_enter Try.func17, Try.ntmps17
      go_wp2_with (go_at_call 76; refine HW.out _ ((Grow.refl w).al _) _ ?_; intro w1 hg1; have cp1 := cell_of_row w1 w.heap.size 0 _ _ (0, 0) (grow_blk hg1 HBX.out); have cp2 := cell_of_row w1 w.heap.size 1 _ _ (0, 0) (grow_blk hg1 HBX.out); have G1 := Lib.hid hg1; clear hg1)
      go_wp2_with (go_at_call 77; refine HO.out _ _ ?_; intro w2 hg2; have G2 := Lib.hid (G1.out.tr hg2); clear hg2 cp1 cp2)
      exact HR.out _ (((Grow.refl w).al _).tr G2.out)
end Go.Proofs.Ythgibnmnjoniiaa
