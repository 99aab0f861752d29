import Derived.Test.YthgibnmnjoniiaaRAround
namespace Go.Proofs.Ythgibnmnjoniiaa
open Go.RowKit B

theorem delta_left {p : Pt} {x : Pt × Pt} (h1 : x.1.x < p.x) (h2 : x.2.x < p.x) : delta p x = 0 := by
  obtain ⟨⟨a1, a2⟩, ⟨b1, b2⟩⟩ := x
  obtain ⟨p1, p2⟩ := p
  dsimp only at h1 h2
  have e : sideI ⟨a1, a2⟩ ⟨b1, b2⟩ ⟨p1, p2⟩ = -((p1 - b1) * (p2 - a2)) - (p1 - a1) * (b2 - p2) := by
    simp only [sideI]; grind
  unfold delta upB dnB
  rw [e]
  dsimp only
  split
  · rename_i h
    simp only [Bool.and_eq_true, decide_eq_true_eq] at h
    have m1 := Int.mul_nonneg (show 0 ≤ p1 - b1 by omega) (show 0 ≤ p2 - a2 by omega)
    have m2 := Int.mul_nonneg (show 0 ≤ p1 - a1 by omega) (show 0 ≤ b2 - p2 by omega)
    omega
  · split
    · rename_i h
      simp only [Bool.and_eq_true, decide_eq_true_eq] at h
      have m1 := Int.mul_nonneg (show 0 ≤ p1 - b1 by omega) (show 0 ≤ a2 - p2 by omega)
      have m2 := Int.mul_nonneg (show 0 ≤ p1 - a1 by omega) (show 0 ≤ p2 - b2 by omega)
      have e1 : (p1 - b1) * (p2 - a2) = -((p1 - b1) * (a2 - p2)) := by rw [← Int.mul_neg, Int.neg_sub]
      have e2 : (p1 - a1) * (b2 - p2) = -((p1 - a1) * (p2 - b2)) := by rw [← Int.mul_neg, Int.neg_sub]
      omega
    · rfl
theorem sumP_zero (f : Pt × Pt → Int) : ∀ l : List (Pt × Pt), (∀ x ∈ l, f x = 0) → sumP f l = 0
  | [], _ => rfl
  | x :: l, h => by
    have := sumP_zero f l (fun y hy => h y (List.mem_cons_of_mem _ hy))
    have := h x (List.mem_cons_self ..)
    simp only [sumP]; omega
theorem edgesL_mem {l : List Pt} {x : Pt × Pt} (hx : x ∈ edgesL l) : x.1 ∈ l ∧ x.2 ∈ l := by
  obtain ⟨i, hi, rfl⟩ := List.getElem_of_mem hx
  rw [edgesL_len] at hi
  rw [edgesL_at hi]
  exact ⟨List.getElem_mem hi, List.getElem_mem (Nat.mod_lt (i + 1) (show 0 < l.length by omega))⟩
theorem arN_left {l : List Pt} {p : Pt} (h : l.all (fun q => decide (q.x < p.x)) = true) : arN l p = 0 := by
  simp only [List.all_eq_true, decide_eq_true_eq] at h
  unfold arN
  split
  · split
    · rfl
    · exact sumP_zero _ _ fun x hx => delta_left (h _ (edgesL_mem hx).1) (h _ (edgesL_mem hx).2)
  · rfl

set_option maxRecDepth 100000 in
set_option maxHeartbeats 1000000 in
theorem live27_any (w : World) {R : Ending → World → Prop} (hR : ∀ w', Grow w w' → R (.returned (.bool true)) w') :
    Calls Try.prog 15 #[] w R := by
  have HR := Lib.hid hR
  clear hR
  have a1 : rightL [⟨0, 0⟩, ⟨4, 0⟩, ⟨4, 3⟩] = true := by decide
  have a2 : areaOf [⟨0, 0⟩, ⟨4, 0⟩, ⟨4, 3⟩] = 12 := by decide
  have a3 : arN [⟨0, 0⟩, ⟨4, 0⟩, ⟨4, 3⟩] ⟨3, 1⟩ = 1 := by decide
  have a4 : arB [⟨0, 0⟩, ⟨4, 0⟩, ⟨4, 3⟩] ⟨3, 1⟩ = true := by decide
  have HA := Lib.hid fun (W : World) (B : Nat) (v : Value) (h : Rd W (fun b => b = B) 2 v 3 (Pts [⟨0, 0⟩, ⟨4, 0⟩, ⟨4, 3⟩])) (R : Ending → World → Prop) hR => area_any [⟨0, 0⟩, ⟨4, 0⟩, ⟨4, 3⟩] v _ W h (R := R) hR
  have HN := Lib.hid fun (W : World) (B : Nat) (v : Value) (h : Rd W (fun b => b = B) 2 v 3 (Pts [⟨0, 0⟩, ⟨4, 0⟩, ⟨4, 3⟩])) (R : Ending → World → Prop) hR => around_any [⟨0, 0⟩, ⟨4, 0⟩, ⟨4, 3⟩] ⟨3, 1⟩ v _ W h (R := R) hR
  rw [a1, a2] at HA
  rw [a3, a4] at HN
  simp only [if_true] at HA
  dsimp only [Pt.cells] at HN
  clear a1 a2 a3 a4
  have HL := Lib.hid fun W => Rd.laid (w := w) (w1 := W) (size := 2) #[.int .i64 0, .int .i64 0, .int .i64 4, .int .i64 0, .int .i64 4, .int .i64 3] 24 (0, 0) 3 (by decide) rfl
  go_enter Try.func15, Try.ntmps15
  go_wp2_with fail
  refine HA.out _ _ _ (HL.out _ (Grow.refl _)) _ ?_
  intro w1 hg1
  have G1 := Lib.hid hg1
  clear hg1
  go_wp2_with fail
  refine HN.out _ _ _ (HL.out _ G1.out) _ ?_
  intro w2 hg2
  have G2 := Lib.hid (G1.out.tr hg2)
  clear hg2
  go_wp2
  exact HR.out _ (grow_al G2.out)

set_option maxRecDepth 100000 in
set_option maxHeartbeats 2000000 in
theorem windArounds_walk (l : List Pt) (p : Pt) (v : Value) (S : Nat → Prop) (w : World) (hb : Rd w S 2 v l.length (Pts l)) {R : Ending → World → Prop}
    (hR : ∀ w', Grow w w' → R (.returned (.bool true)) w') :
    Calls Try.prog 3 #[v, .agg p.cells.toArray] w R := by
  have hb := hb.lt (by decide)
  have HR := Lib.hid hR
  have HA := Lib.hid fun W (h : Grow w W) (R : Ending → World → Prop) hR => around_any l p v _ W (hb.gr2 (by decide) h) (R := R) hR
  have HB := Lib.hid fun W (h : Grow w W) (R : Ending → World → Prop) hR => raround_any l p v _ W (hb.gr2 (by decide) h) (R := R) hR
  have HZ := Lib.hid (fun (h : l.all (fun q => decide (q.x < p.x)) = true) => arN_left h)
  have HV := Lib.hid (fun W (R : Ending → World → Prop) hR => live27_any W (R := R) hR)
  clear hR
  obtain ⟨_, A, c, rfl, k1, k2, -, k4⟩ := hb
  unfold maxLen at k2
  obtain ⟨p1, p2⟩ := p
  unfold Pt.cells at HA HB ⊢
  dsimp only at HA HB HZ ⊢
  have HBX : Hid ((w.alloc (.cells #[.int .i64 p1, .int .i64 p2] 24)).heap[w.heap.size]? = some (.cells #[.int .i64 p1, .int .i64 p2] 24 (0, 0))) := heap_alloc_new _ _
  generalize arN l ⟨p1, p2⟩ = n at *
  generalize arB l ⟨p1, p2⟩ = fr at *
  by_cases hl : 100 < l.length
  · go_enter Try.func3, Try.ntmps3
    go_wp2_with (go_at_call 15; refine HV.out _ _ ?_; intro w1 hg1)
    exact HR.out _ (((Grow.refl w).al _).tr hg1)
  · go_enter Try.func3, Try.ntmps3
    go_wp2_with fail
    refine HA.out _ ((Grow.refl w).al _) _ ?_
    intro w1 hg1
    have G1 := Lib.hid hg1
    have c1 := cell_of_row w1 w.heap.size 0 _ _ (0, 0) (grow_blk hg1 HBX.out)
    have c2 := cell_of_row w1 w.heap.size 1 _ _ (0, 0) (grow_blk hg1 HBX.out)
    clear hg1
    go_wp2_with fail
    refine HB.out _ (((Grow.refl w).al _).tr G1.out) _ ?_
    intro w2 hg2
    have G2 := Lib.hid (G1.out.tr hg2)
    clear hg2 c1 c2
    have d1 := cell_of_row w2 w.heap.size 0 _ _ (0, 0) (grow_blk G2.out HBX.out)
    have d2 := cell_of_row w2 w.heap.size 1 _ _ (0, 0) (grow_blk G2.out HBX.out)
    go_wp2
    go_loopw [10, 9] (fun i r wr => ∃ (k : Nat) (t : Bool), k ≤ l.length ∧ i = .int .i64 k ∧ r = .bool t ∧ Hid (t = (l.take k).all (fun q => decide (q.x < p1))) ∧ Hid (Grow (w.alloc (.cells #[.int .i64 p1, .int .i64 p2] 24)) wr)) (fun i _ _ => l.length - (intOf i).toNat)
    case atStart => exact ⟨0, true, Nat.zero_le _, rfl, rfl, rfl, G2.out⟩
    case round =>
      obtain ⟨k, t, hk, rfl, rfl, ht, hg⟩ := hrel
      clear d1 d2
      by_cases hlt : k < l.length
      · obtain ⟨b, o, rfl, hS, hc⟩ := k4 (by omega)
        have e1 := fun W (h : Grow wr W) => flat_cells Pt.cells_len ((grow_al hg.out).tr h) hS hc hlt
        have d1 := fun W (h : Grow wr W) => cell_of_row W w.heap.size 0 _ _ (0, 0) (grow_blk (hg.out.tr h) HBX.out)
        have HT : Hid ((l.take (k + 1)).all (fun q => decide (q.x < p1)) = (t && decide ((l[k]'hlt).x < p1))) := by
          show _ = _
          rw [List.take_succ_eq_append_getElem hlt, List.all_append, ← ht.out]
          simp
        clear hc k4
        generalize l[k]'hlt = q at *
        obtain ⟨q1, q2⟩ := q
        have C1 : Hid (∀ W, Grow wr W → W.cell? ⟨b, o + k * 2, none⟩ = some (.int .i64 q1) ∧ W.cell? ⟨w.heap.size, 0, none⟩ = some (.int .i64 p1)) := fun W h => ⟨e1 W h 0 _ rfl, d1 W h⟩
        clear e1 d1
        dsimp only at HT
        obtain ⟨y1, y2⟩ := C1.out _ (Grow.refl wr)
        cases t with
        | false =>
          go_wp2
          refine wp_region_lexG (Grow wr) ((Grow.refl _).dr) [0, 1, 2, 3, 4, 5, 6, 7, 8, 9, 10, 11] (by kernel_rfl) (by kernel_rfl) rfl (by kernel_rfl) (by intro c a d v w h; cases d <;> exact h) ?_
          iterate 2 (refine lexg_take (v := ?_) rfl ?_ ?_ ?_; rotate_left; (rfl); (intro W hW; (try clear hW); go_simp; with_reducible rfl); try simp only [Act.put, List.setIfInBounds_toArray, List.set_cons_zero, List.set_cons_succ])
          iterate 8 (refine lex_skip rfl (by rfl) ?_; try simp only [Act.put, List.setIfInBounds_toArray, List.set_cons_zero, List.set_cons_succ])
          iterate 2 (refine lexg_take (v := ?_) rfl ?_ ?_ ?_; rotate_left; (rfl); (intro W hW; (try clear hW); go_simp; with_reducible rfl); try simp only [Act.put, List.setIfInBounds_toArray, List.set_cons_zero, List.set_cons_succ])
          refine lex_nil ?_
          go_wp2
          go_roundw
          case rel => exact ⟨k + 1, _, by omega, by go_num, rfl, HT.out.symm, hg.out.dr⟩
          case measure => simp [intOf]; omega
        | true =>
          rw [Bool.true_and] at HT
          go_wp2
          refine wp_region_lexG (Grow wr) ((Grow.refl _).dr) [0, 1, 2, 3, 4, 5, 6, 7, 8, 9, 10, 11] (by kernel_rfl) (by kernel_rfl) rfl (by kernel_rfl) (by intro c a d v w h; cases d <;> exact h) ?_
          iterate 12 (refine lexg_take (v := ?_) rfl ?_ ?_ ?_; rotate_left; (rfl); (intro W hW; obtain ⟨y1, y2⟩ := C1.out W hW; (try clear hW); go_simp; with_reducible rfl); try simp only [Act.put, List.setIfInBounds_toArray, List.set_cons_zero, List.set_cons_succ])
          refine lex_nil ?_
          go_wp2
          go_roundw
          case rel => exact ⟨k + 1, _, by omega, by go_num, rfl, HT.out.symm, hg.out.dr⟩
          case measure => simp [intOf]; omega
      · obtain rfl : k = l.length := by omega
        clear k4
        have HT := ht.out
        rw [List.take_length] at HT
        cases t with
        | false =>
          clear HT ht
          go_wp2_with (go_at_call 15; refine HV.out _ _ ?_; intro w4 hg4)
          exact HR.out _ (((Grow.refl w).al _).tr (hg.out.tr hg4))
        | true =>
          have hn := HZ.out HT.symm
          clear HT ht
          go_wp2_with (go_at_call 15; refine HV.out _ _ ?_; intro w4 hg4)
          exact HR.out _ (((Grow.refl w).al _).tr (hg.out.tr hg4))
end Go.Proofs.Ythgibnmnjoniiaa
