/-
  wide.MulDiv.
-/
import Derived.Test.YtjcgkhcbdbbdkaaChecked
import Derived.Test.YtjcgkhcbdbbdkaaTimes
import Derived.Test.YtjcgkhcbdbbdkaaDiv64
namespace Go.Proofs.Ytjcgkhcbdbbdkaa
open Go.RowKit Go.Lib B

/-- what wide.MulDiv answers -/
def mdS (s : Int) (P d : Nat) (u : Int) : Int × Nat × Int :=
  if d = 0 then (0, 0, 1)
  else if d ≤ P / 18446744073709551616 then (0, 0, 8)
  else if 0 ≤ s * u then (if 9223372036854775807 < P / d then (0, 0, 8) else (((P / d : Nat) : Int), P % d, 0))
  else if 0 < P % d then (if P / d = 18446744073709551615 then (0, 0, 8) else if 9223372036854775808 < P / d + 1 then (0, 0, 8) else (-((P / d : Nat) : Int) - 1, d - P % d, 0))
  else if 9223372036854775808 < P / d then (0, 0, 8) else (-((P / d : Nat) : Int), P % d, 0)

set_option maxRecDepth 100000 in
set_option maxHeartbeats 4000000 in
theorem mulDiv_any (a b c : Int) (ha : I64 a) (hb : I64 b) (hc : I64 c) (w : World) {R : Ending → World → Prop}
    (hR : ∀ w' q r e, Grow w w' → mdS (tmS a b) (a.natAbs * b.natAbs) c.natAbs (cmpI' c 0) = (q, r, e) → R (.returned (.tuple #[.int .i64 q, .int .u64 (r : Nat), .int .i64 e])) w') :
    Calls Try.prog 99 #[.int .i64 a, .int .i64 b, .int .i64 c] w R := by
  have T := Lib.hid fun W (R : Ending → World → Prop) hR => times_any a b ha hb W (R := R) hR
  have A := Lib.hid fun W (R : Ending → World → Prop) hR => amount_any c hc W (R := R) hR
  have C := Lib.hid fun W (R : Ending → World → Prop) hR => cmpI_any c 0 W (R := R) hR
  have hs : tmS a b = -1 ∨ tmS a b = 0 ∨ tmS a b = 1 := mul_bd (cmpI'_bd _ _) (cmpI'_bd _ _)
  have hu := cmpI'_bd c 0
  have hm := mul_bd hs hu
  have HR := Lib.hid hR
  clear hR
  unfold tmV at T
  unfold mdS at HR
  have hdb : c.natAbs < 18446744073709551616 := by obtain ⟨c1, c2⟩ := hc; omega
  have hd0 : c = 0 ↔ c.natAbs = 0 := by omega
  obtain ⟨d, hd⟩ : ∃ d, c.natAbs = d := ⟨_, rfl⟩
  obtain ⟨P, hP⟩ : ∃ P, a.natAbs * b.natAbs = P := ⟨_, rfl⟩
  rw [hd] at HR A hdb hd0
  rw [hP] at HR T
  clear hd hP ha hb hc
  generalize tmS a b = s at *
  generalize cmpI' c 0 = u at *
  obtain ⟨m, hmm⟩ : ∃ m, s * u = m := ⟨_, rfl⟩
  rw [hmm] at HR hm
  by_cases h0 : d = 0
  · obtain rfl : c = 0 := hd0.2 h0
    have h := HR.out w 0 0 1 (Grow.refl w) (by rw [if_pos h0])
    clear HR hs hu hm hd0 h0 hmm
    go_enter Try.func99, Try.ntmps99
    go_wp2
    exact h
  · have t0 : (c == 0) = false := by rw [beq_eq_false_iff_ne]; intro e; exact h0 (hd0.1 e)
    rw [if_neg h0] at HR
    obtain ⟨hi, hhi⟩ : ∃ hi, P / 18446744073709551616 = hi := ⟨_, rfl⟩
    obtain ⟨lo, hlo⟩ : ∃ lo, P % 18446744073709551616 = lo := ⟨_, rfl⟩
    have hlb : lo < 18446744073709551616 := by omega
    have hPe : hi * 18446744073709551616 + lo = P := by omega
    rw [hhi, hlo] at T
    rw [hhi] at HR
    clear hd0 hhi hlo
    by_cases hbig : d ≤ hi
    · have t1 : decide (d ≤ hi) = true := decide_eq_true hbig
      have h := Lib.hid fun w' g => HR.out w' 0 0 8 g (by rw [if_pos hbig])
      clear HR hs hu hm hbig hmm
      go_enter Try.func99, Try.ntmps99
      go_wp2_with fail
      go_at_call 103
      refine T.out _ _ ?_
      intro w1 hg1
      have G1 := Lib.hid hg1
      clear hg1
      go_wp2_with fail
      go_at_call 104
      refine A.out _ _ ?_
      go_wp2_with fail
      exact h.out _ (G1.out.al _)
    · have t1 : decide (d ≤ hi) = false := decide_eq_false hbig
      rw [if_neg hbig] at HR
      have D := Lib.hid fun W (R : Ending → World → Prop) hR => div64_any hi lo d W (by omega) hdb hlb (R := R) hR
      rw [hPe] at D
      have hnb : P / d < 18446744073709551616 := by
        rw [Nat.div_lt_iff_lt_mul (by omega)]; omega
      have hrb : P % d < d := Nat.mod_lt _ (by omega)
      generalize P / d = n at *
      generalize P % d = r at *
      clear hPe hbig
      by_cases hsg : 0 ≤ m
      · rw [if_pos hsg] at HR
        have t2 : decide (0 ≤ m) = true := decide_eq_true hsg
        by_cases hn : 9223372036854775807 < n
        · have h := Lib.hid fun w' g => HR.out w' 0 0 8 g (by rw [if_pos hn])
          clear HR
          go_enter Try.func99, Try.ntmps99
          go_wp2_with fail
          go_at_call 103
          refine T.out _ _ ?_
          intro w1 hg1
          have G1 := Lib.hid hg1
          clear hg1
          go_wp2_with fail
          go_at_call 104
          refine A.out _ _ ?_
          go_wp2_with fail
          go_at_call 105
          refine D.out _ _ ?_
          intro w2 hg2
          have G2 := Lib.hid ((G1.out.al (.cells #[.int .i64 s, .int .u64 (hi : Nat), .int .u64 (lo : Nat)] 144)).tr hg2)
          have K2 := Lib.hid (blk_al _ _ _ hg2)
          clear hg2
          go_wp2_with fail
          refine wp_region_lexT (Grow w2) ((Grow.refl w2).dr) 4 [0, 1, 2, 3] (by kernel_rfl) (by kernel_rfl) (by intro c a d v w h; cases d <;> exact h) ?_
          iterate 3 (apply lext_take; exact rfl; exact rfl; (intro W hW; have z0 := cell_of_row _ w1.heap.size 0 _ _ (0, 0) (grow_blk hW K2.out); (try clear hW); go_simp; with_reducible rfl); try simp only [Act.put, List.setIfInBounds_toArray, List.set_cons_zero, List.set_cons_succ])
          apply lext_turn; exact rfl; exact rfl; exact rfl; intro K hK; go_simp; go_at_call 57; refine C.out _ _ ?_; refine hK.out _ _ (Grow.refl w2).dr ?_; clear hK
          try simp only [Act.put, List.setIfInBounds_toArray, List.set_cons_zero, List.set_cons_succ]
          refine lext_nil ?_
          simp only [List.drop_succ_cons, List.drop_zero]
          go_wp2
          exact h.out _ (G2.out.tr (Grow.refl w2).dr)
        · have h := Lib.hid fun w' g => HR.out w' n r 0 g (by rw [if_neg hn])
          clear HR
          go_enter Try.func99, Try.ntmps99
          go_wp2_with fail
          go_at_call 103
          refine T.out _ _ ?_
          intro w1 hg1
          have G1 := Lib.hid hg1
          clear hg1
          go_wp2_with fail
          go_at_call 104
          refine A.out _ _ ?_
          go_wp2_with fail
          go_at_call 105
          refine D.out _ _ ?_
          intro w2 hg2
          have G2 := Lib.hid ((G1.out.al (.cells #[.int .i64 s, .int .u64 (hi : Nat), .int .u64 (lo : Nat)] 144)).tr hg2)
          have K2 := Lib.hid (blk_al _ _ _ hg2)
          clear hg2
          go_wp2_with fail
          refine wp_region_lexT (Grow w2) ((Grow.refl w2).dr) 4 [0, 1, 2, 3] (by kernel_rfl) (by kernel_rfl) (by intro c a d v w h; cases d <;> exact h) ?_
          iterate 3 (apply lext_take; exact rfl; exact rfl; (intro W hW; have z0 := cell_of_row _ w1.heap.size 0 _ _ (0, 0) (grow_blk hW K2.out); (try clear hW); go_simp; with_reducible rfl); try simp only [Act.put, List.setIfInBounds_toArray, List.set_cons_zero, List.set_cons_succ])
          apply lext_turn; exact rfl; exact rfl; exact rfl; intro K hK; go_simp; go_at_call 57; refine C.out _ _ ?_; refine hK.out _ _ (Grow.refl w2).dr ?_; clear hK
          try simp only [Act.put, List.setIfInBounds_toArray, List.set_cons_zero, List.set_cons_succ]
          refine lext_nil ?_
          simp only [List.drop_succ_cons, List.drop_zero]
          go_wp2
          exact h.out _ (G2.out.tr (Grow.refl w2).dr)
      · rw [if_neg hsg] at HR
        have t2 : decide (0 ≤ m) = false := decide_eq_false hsg
        by_cases hr : 0 < r
        · rw [if_pos hr] at HR
          by_cases hn : n = 18446744073709551615
          · have h := Lib.hid fun w' g => HR.out w' 0 0 8 g (by rw [if_pos hn])
            clear HR
            subst hn
            go_enter Try.func99, Try.ntmps99
            go_wp2_with fail
            go_at_call 103
            refine T.out _ _ ?_
            intro w1 hg1
            have G1 := Lib.hid hg1
            clear hg1
            go_wp2_with fail
            go_at_call 104
            refine A.out _ _ ?_
            go_wp2_with fail
            go_at_call 105
            refine D.out _ _ ?_
            intro w2 hg2
            have G2 := Lib.hid ((G1.out.al (.cells #[.int .i64 s, .int .u64 (hi : Nat), .int .u64 (lo : Nat)] 144)).tr hg2)
            have K2 := Lib.hid (blk_al _ _ _ hg2)
            clear hg2
            go_wp2_with fail
            refine wp_region_lexT (Grow w2) ((Grow.refl w2).dr) 4 [0, 1, 2, 3] (by kernel_rfl) (by kernel_rfl) (by intro c a d v w h; cases d <;> exact h) ?_
            iterate 3 (apply lext_take; exact rfl; exact rfl; (intro W hW; have z0 := cell_of_row _ w1.heap.size 0 _ _ (0, 0) (grow_blk hW K2.out); (try clear hW); go_simp; with_reducible rfl); try simp only [Act.put, List.setIfInBounds_toArray, List.set_cons_zero, List.set_cons_succ])
            apply lext_turn; exact rfl; exact rfl; exact rfl; intro K hK; go_simp; go_at_call 57; refine C.out _ _ ?_; refine hK.out _ _ (Grow.refl w2).dr ?_; clear hK
            try simp only [Act.put, List.setIfInBounds_toArray, List.set_cons_zero, List.set_cons_succ]
            refine lext_nil ?_
            simp only [List.drop_succ_cons, List.drop_zero]
            go_wp2
            exact h.out _ (G2.out.tr (Grow.refl w2).dr)
          · rw [if_neg hn] at HR
            have t3 : ((n : Int) == 18446744073709551615) = false := by rw [beq_eq_false_iff_ne]; omega
            obtain ⟨e, he⟩ : ∃ e, d - r = e := ⟨_, rfl⟩
            have t4 : ((d : Int) - r) = (e : Int) := by omega
            obtain ⟨n1, hn1⟩ : ∃ n1, n + 1 = n1 := ⟨_, rfl⟩
            have t6 : ((n : Int) + 1) = (n1 : Int) := by omega
            have hn1b : n1 < 18446744073709551616 := by omega
            have heb : e < 18446744073709551616 := by omega
            rw [he, hn1, show (-(n : Int) - 1) = -(n1 : Int) by omega] at HR
            clear he hn1
            by_cases hn2 : 9223372036854775808 < n1
            · have h := Lib.hid fun w' g => HR.out w' 0 0 8 g (by rw [if_pos hn2])
              clear HR
              go_enter Try.func99, Try.ntmps99
              go_wp2_with fail
              go_at_call 103
              refine T.out _ _ ?_
              intro w1 hg1
              have G1 := Lib.hid hg1
              clear hg1
              go_wp2_with fail
              go_at_call 104
              refine A.out _ _ ?_
              go_wp2_with fail
              go_at_call 105
              refine D.out _ _ ?_
              intro w2 hg2
              have G2 := Lib.hid ((G1.out.al (.cells #[.int .i64 s, .int .u64 (hi : Nat), .int .u64 (lo : Nat)] 144)).tr hg2)
              have K2 := Lib.hid (blk_al _ _ _ hg2)
              clear hg2
              go_wp2_with fail
              refine wp_region_lexT (Grow w2) ((Grow.refl w2).dr) 4 [0, 1, 2, 3] (by kernel_rfl) (by kernel_rfl) (by intro c a d v w h; cases d <;> exact h) ?_
              iterate 3 (apply lext_take; exact rfl; exact rfl; (intro W hW; have z0 := cell_of_row _ w1.heap.size 0 _ _ (0, 0) (grow_blk hW K2.out); (try clear hW); go_simp; with_reducible rfl); try simp only [Act.put, List.setIfInBounds_toArray, List.set_cons_zero, List.set_cons_succ])
              apply lext_turn; exact rfl; exact rfl; exact rfl; intro K hK; go_simp; go_at_call 57; refine C.out _ _ ?_; refine hK.out _ _ (Grow.refl w2).dr ?_; clear hK
              try simp only [Act.put, List.setIfInBounds_toArray, List.set_cons_zero, List.set_cons_succ]
              refine lext_nil ?_
              simp only [List.drop_succ_cons, List.drop_zero]
              go_wp2
              exact h.out _ (G2.out.tr (Grow.refl w2).dr)
            · have t5 : wrap64 (-wrap64 (n1 : Int)) = -(n1 : Int) := by unfold wrap64; omega
              have h := Lib.hid fun w' g => HR.out w' (wrap64 (-wrap64 (n1 : Int))) e 0 g (by rw [if_neg hn2, t5])
              clear HR t5
              go_enter Try.func99, Try.ntmps99
              go_wp2_with fail
              go_at_call 103
              refine T.out _ _ ?_
              intro w1 hg1
              have G1 := Lib.hid hg1
              clear hg1
              go_wp2_with fail
              go_at_call 104
              refine A.out _ _ ?_
              go_wp2_with fail
              go_at_call 105
              refine D.out _ _ ?_
              intro w2 hg2
              have G2 := Lib.hid ((G1.out.al (.cells #[.int .i64 s, .int .u64 (hi : Nat), .int .u64 (lo : Nat)] 144)).tr hg2)
              have K2 := Lib.hid (blk_al _ _ _ hg2)
              clear hg2
              go_wp2_with fail
              refine wp_region_lexT (Grow w2) ((Grow.refl w2).dr) 4 [0, 1, 2, 3] (by kernel_rfl) (by kernel_rfl) (by intro c a d v w h; cases d <;> exact h) ?_
              iterate 3 (apply lext_take; exact rfl; exact rfl; (intro W hW; have z0 := cell_of_row _ w1.heap.size 0 _ _ (0, 0) (grow_blk hW K2.out); (try clear hW); go_simp; with_reducible rfl); try simp only [Act.put, List.setIfInBounds_toArray, List.set_cons_zero, List.set_cons_succ])
              apply lext_turn; exact rfl; exact rfl; exact rfl; intro K hK; go_simp; go_at_call 57; refine C.out _ _ ?_; refine hK.out _ _ (Grow.refl w2).dr ?_; clear hK
              try simp only [Act.put, List.setIfInBounds_toArray, List.set_cons_zero, List.set_cons_succ]
              refine lext_nil ?_
              simp only [List.drop_succ_cons, List.drop_zero]
              go_wp2
              exact h.out _ (G2.out.tr (Grow.refl w2).dr)
        · rw [if_neg hr] at HR
          obtain rfl : r = 0 := by omega
          by_cases hn : 9223372036854775808 < n
          · have h := Lib.hid fun w' g => HR.out w' 0 0 8 g (by rw [if_pos hn])
            clear HR
            go_enter Try.func99, Try.ntmps99
            go_wp2_with fail
            go_at_call 103
            refine T.out _ _ ?_
            intro w1 hg1
            have G1 := Lib.hid hg1
            clear hg1
            go_wp2_with fail
            go_at_call 104
            refine A.out _ _ ?_
            go_wp2_with fail
            go_at_call 105
            refine D.out _ _ ?_
            intro w2 hg2
            have G2 := Lib.hid ((G1.out.al (.cells #[.int .i64 s, .int .u64 (hi : Nat), .int .u64 (lo : Nat)] 144)).tr hg2)
            have K2 := Lib.hid (blk_al _ _ _ hg2)
            clear hg2
            go_wp2_with fail
            refine wp_region_lexT (Grow w2) ((Grow.refl w2).dr) 4 [0, 1, 2, 3] (by kernel_rfl) (by kernel_rfl) (by intro c a d v w h; cases d <;> exact h) ?_
            iterate 3 (apply lext_take; exact rfl; exact rfl; (intro W hW; have z0 := cell_of_row _ w1.heap.size 0 _ _ (0, 0) (grow_blk hW K2.out); (try clear hW); go_simp; with_reducible rfl); try simp only [Act.put, List.setIfInBounds_toArray, List.set_cons_zero, List.set_cons_succ])
            apply lext_turn; exact rfl; exact rfl; exact rfl; intro K hK; go_simp; go_at_call 57; refine C.out _ _ ?_; refine hK.out _ _ (Grow.refl w2).dr ?_; clear hK
            try simp only [Act.put, List.setIfInBounds_toArray, List.set_cons_zero, List.set_cons_succ]
            refine lext_nil ?_
            simp only [List.drop_succ_cons, List.drop_zero]
            go_wp2
            exact h.out _ (G2.out.tr (Grow.refl w2).dr)
          · have t5 : wrap64 (-wrap64 (n : Int)) = -(n : Int) := by unfold wrap64; omega
            have h := Lib.hid fun w' g => HR.out w' (wrap64 (-wrap64 (n : Int))) 0 0 g (by rw [if_neg hn, t5])
            clear HR t5
            go_enter Try.func99, Try.ntmps99
            go_wp2_with fail
            go_at_call 103
            refine T.out _ _ ?_
            intro w1 hg1
            have G1 := Lib.hid hg1
            clear hg1
            go_wp2_with fail
            go_at_call 104
            refine A.out _ _ ?_
            go_wp2_with fail
            go_at_call 105
            refine D.out _ _ ?_
            intro w2 hg2
            have G2 := Lib.hid ((G1.out.al (.cells #[.int .i64 s, .int .u64 (hi : Nat), .int .u64 (lo : Nat)] 144)).tr hg2)
            have K2 := Lib.hid (blk_al _ _ _ hg2)
            clear hg2
            go_wp2_with fail
            refine wp_region_lexT (Grow w2) ((Grow.refl w2).dr) 4 [0, 1, 2, 3] (by kernel_rfl) (by kernel_rfl) (by intro c a d v w h; cases d <;> exact h) ?_
            iterate 3 (apply lext_take; exact rfl; exact rfl; (intro W hW; have z0 := cell_of_row _ w1.heap.size 0 _ _ (0, 0) (grow_blk hW K2.out); (try clear hW); go_simp; with_reducible rfl); try simp only [Act.put, List.setIfInBounds_toArray, List.set_cons_zero, List.set_cons_succ])
            apply lext_turn; exact rfl; exact rfl; exact rfl; intro K hK; go_simp; go_at_call 57; refine C.out _ _ ?_; refine hK.out _ _ (Grow.refl w2).dr ?_; clear hK
            try simp only [Act.put, List.setIfInBounds_toArray, List.set_cons_zero, List.set_cons_succ]
            refine lext_nil ?_
            simp only [List.drop_succ_cons, List.drop_zero]
            go_wp2
            exact h.out _ (G2.out.tr (Grow.refl w2).dr)
end Go.Proofs.Ytjcgkhcbdbbdkaa
