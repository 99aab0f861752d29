/-
  wide.times, cmp.Or, wide.Cmp, wide.Sign.
-/
import Derived.Test.YtjcgkhcbdbbdkaaChecked
import Derived.Test.YtjcgkhcbdbbdkaaMul64
import Derived.Test.YtjcgkhcbdbbdkaaBigA
namespace Go.Proofs.Ytjcgkhcbdbbdkaa
open Go.RowKit Go.Lib B

theorem cmpI'_bd (a b : Int) : cmpI' a b = -1 ∨ cmpI' a b = 0 ∨ cmpI' a b = 1 := by unfold cmpI'; split <;> (try split) <;> simp
theorem mul_bd {s t : Int} (hs : s = -1 ∨ s = 0 ∨ s = 1) (ht : t = -1 ∨ t = 0 ∨ t = 1) : s * t = -1 ∨ s * t = 0 ∨ s * t = 1 := by
  rcases hs with rfl | rfl | rfl <;> rcases ht with rfl | rfl | rfl <;> simp
theorem blk_set3 {W : World} {B : Nat} {cs : Array Value} {t : TypeId} (h : W.heap[B]? = some (.cells cs t (0, 0))) (j : Nat) (v : Value) : (W.setCell ⟨B, j, none⟩ v).heap[B]? = some (.cells (cs.setIfInBounds j v) t (0, 0)) := blk_set h j v

/-- the product of two numbers, by its sign and its amount -/
def tmS (a b : Int) : Int := cmpI' a 0 * cmpI' b 0
def tmV (a b : Int) : Value := .agg #[.int .i64 (tmS a b), .int .u64 ((a.natAbs * b.natAbs / 18446744073709551616 : Nat) : Int), .int .u64 ((a.natAbs * b.natAbs % 18446744073709551616 : Nat) : Int)]

set_option maxRecDepth 100000 in
set_option maxHeartbeats 2000000 in
theorem times_any (a b : Int) (ha : I64 a) (hb : I64 b) (w : World) {R : Ending → World → Prop} (hR : ∀ w', Grow w w' → R (.returned (tmV a b)) w') :
    Calls Try.prog 103 #[.int .i64 a, .int .i64 b] w R := by
  have C1 := Lib.hid fun W (R : Ending → World → Prop) hR => cmpI_any a 0 W (R := R) hR
  have C2 := Lib.hid fun W (R : Ending → World → Prop) hR => cmpI_any b 0 W (R := R) hR
  have A1 := Lib.hid fun W (R : Ending → World → Prop) hR => amount_any a ha W (R := R) hR
  have A2 := Lib.hid fun W (R : Ending → World → Prop) hR => amount_any b hb W (R := R) hR
  obtain ⟨a1, a2⟩ := ha
  obtain ⟨b1, b2⟩ := hb
  have M := Lib.hid fun W (R : Ending → World → Prop) hR => wmul_any a.natAbs b.natAbs (by omega) (by omega) W (R := R) hR
  have hb1 := cmpI'_bd a 0
  have hb2 := cmpI'_bd b 0
  have hm := mul_bd hb1 hb2
  have HR := Lib.hid hR
  clear hR
  unfold tmV tmS at HR
  generalize a.natAbs * b.natAbs / 18446744073709551616 = hi at *
  generalize a.natAbs * b.natAbs % 18446744073709551616 = lo at *
  generalize cmpI' a 0 = s at *
  generalize cmpI' b 0 = t at *
  obtain ⟨m, hm1⟩ : ∃ m, s * t = m := ⟨_, rfl⟩
  rw [hm1] at HR hm
  go_enter Try.func103, Try.ntmps103
  go_wp2_with fail
  go_at_call 57
  refine C1.out _ _ ?_
  go_wp2_with fail
  go_at_call 57
  refine C2.out _ _ ?_
  go_wp2_with fail
  go_at_call 104
  refine A1.out _ _ ?_
  go_wp2_with fail
  go_at_call 104
  refine A2.out _ _ ?_
  go_wp2_with fail
  go_at_call 106
  refine M.out _ _ ?_
  go_wp2_with fail
  refine bodyPost_ret (v := .agg #[.int .i64 m, .int .u64 (hi : Nat), .int .u64 (lo : Nat)]) (by simp [results, Try.f103, go_sem]) rfl (HR.out _ (((Grow.refl w).al _).al _))

def orL : List Int → Int
  | [] => 0
  | x :: t => if x ≠ 0 then x else orL t
set_option maxRecDepth 100000 in
set_option maxHeartbeats 1000000 in
theorem or_any (l : List Int) (v : Value) (S : Nat → Prop) (w : World) (hb : Rd w S 1 v l.length (l.map fun n => .int .i64 n)) (hl : l.length ≤ 16) {R : Ending → World → Prop} (hR : R (.returned (.int .i64 (orL l))) w) :
    Calls Try.prog 56 #[v] w R := by
  have HR := Lib.hid hR
  clear hR
  obtain ⟨A, c, rfl, h1, h2⟩ := rd_slice hb
  have HB := Lib.hid hb
  clear hb
  go_enter Try.func56, Try.ntmps56
  go_wp2
  go_loopw [8] (fun s8 wr => ∃ k : Nat, k ≤ l.length ∧ s8 = .int .i64 k ∧ Hid (orL l = orL (l.drop k)) ∧ wr = w) (fun s8 _ => l.length - (intOf s8).toNat)
  case atStart => exact ⟨0, Nat.zero_le _, rfl, rfl, rfl⟩
  case round =>
    obtain ⟨k, hk, rfl, ho, rfl⟩ := hrel
    by_cases hlt : k < l.length
    · obtain ⟨b, o, rfl, d1⟩ := rd_at HB.out (Grow.refl wr) (j := k) (u := .int .i64 (l[k]'hlt)) (by simp [hlt])
      have e : Hid (orL (l.drop k) = if (l[k]'hlt) ≠ 0 then (l[k]'hlt) else orL (l.drop (k + 1))) := by
        show _ = _
        rw [List.drop_eq_getElem_cons hlt]; rfl
      generalize l[k]'hlt = x at *
      by_cases h0 : x = 0
      · subst h0
        go_wp2
        go_roundw
        case rel => exact ⟨k + 1, by omega, by go_num, by show _ = _; rw [ho.out, e.out]; rfl, by first | rfl | trivial⟩
        case measure => simp [intOf]; omega
      · have t0 : (x != 0) = true := by simp [h0]
        have h := HR.out
        rw [ho.out, e.out, if_pos h0] at h
        clear h0 e
        go_wp2
        exact h
    · obtain rfl : k = l.length := by omega
      have h := HR.out
      rw [ho.out, List.drop_length] at h
      go_wp2
      exact h

def cmpW (a b c d : Int) : Int :=
  if tmS a b ≠ tmS c d ∨ tmS a b = 0 then cmpI' (tmS a b) (tmS c d)
  else tmS a b * orL [cmpI' ((a.natAbs * b.natAbs / 18446744073709551616 : Nat) : Int) ((c.natAbs * d.natAbs / 18446744073709551616 : Nat) : Int), cmpI' ((a.natAbs * b.natAbs % 18446744073709551616 : Nat) : Int) ((c.natAbs * d.natAbs % 18446744073709551616 : Nat) : Int)]

set_option maxRecDepth 100000 in
set_option maxHeartbeats 2000000 in
theorem wcmp_any (a b c d : Int) (ha : I64 a) (hb : I64 b) (hc : I64 c) (hd : I64 d) (w : World) {R : Ending → World → Prop} (hR : ∀ w', Grow w w' → R (.returned (.int .i64 (cmpW a b c d))) w') :
    Calls Try.prog 97 #[.int .i64 a, .int .i64 b, .int .i64 c, .int .i64 d] w R := by
  have T1 := Lib.hid fun W (R : Ending → World → Prop) hR => times_any a b ha hb W (R := R) hR
  have T2 := Lib.hid fun W (R : Ending → World → Prop) hR => times_any c d hc hd W (R := R) hR
  have hs : tmS a b = -1 ∨ tmS a b = 0 ∨ tmS a b = 1 := mul_bd (cmpI'_bd _ _) (cmpI'_bd _ _)
  have ht : tmS c d = -1 ∨ tmS c d = 0 ∨ tmS c d = 1 := mul_bd (cmpI'_bd _ _) (cmpI'_bd _ _)
  have HR1 : ∀ n, cmpW a b c d = n → ∀ w', Grow w w' → R (.returned (.int .i64 n)) w' := by rintro n rfl; exact hR
  have HR := Lib.hid HR1
  clear hR HR1
  unfold tmV at T1 T2
  unfold cmpW at HR
  generalize tmS a b = s at *
  generalize tmS c d = t at *
  generalize a.natAbs * b.natAbs / 18446744073709551616 = p1 at *
  generalize a.natAbs * b.natAbs % 18446744073709551616 = p0 at *
  generalize c.natAbs * d.natAbs / 18446744073709551616 = q1 at *
  generalize c.natAbs * d.natAbs % 18446744073709551616 = q0 at *
  by_cases hst : s = t
  · subst hst
    by_cases h0 : s = 0
    · subst h0
      have h := HR.out 0 (by simp [cmpI'])
      have C := Lib.hid fun W (R : Ending → World → Prop) hR => cmpI_any 0 0 W (R := R) hR
      rw [show cmpI' 0 0 = 0 from rfl] at C
      have h := Lib.hid h
      clear hs ht HR
      go_enter Try.func97, Try.ntmps97
      go_wp2_with fail
      go_at_call 103
      refine T1.out _ _ ?_
      intro w1 hg1
      have G1 := Lib.hid hg1
      clear hg1
      go_wp2_with fail
      go_at_call 103
      refine T2.out _ _ ?_
      intro w2 hg2
      have G2 := Lib.hid (G1.out.tr hg2)
      clear hg2
      go_wp2_with fail
      go_at_call 57
      refine C.out _ _ ?_
      go_wp2
      exact (G2.out.al _).al _
    · have t0 : (s == 0) = false := by rw [beq_eq_false_iff_ne]; exact h0
      obtain ⟨x1, hx1⟩ : ∃ x, cmpI' (p1 : Int) (q1 : Int) = x := ⟨_, rfl⟩
      obtain ⟨x0, hx0⟩ : ∃ x, cmpI' (p0 : Int) (q0 : Int) = x := ⟨_, rfl⟩
      have hb1 := cmpI'_bd (p1 : Int) (q1 : Int)
      have hb0 := cmpI'_bd (p0 : Int) (q0 : Int)
      have C1 := Lib.hid fun W (R : Ending → World → Prop) hR => cmpU_any p1 q1 W (R := R) hR
      have C0 := Lib.hid fun W (R : Ending → World → Prop) hR => cmpU_any p0 q0 W (R := R) hR
      rw [hx1] at C1 hb1
      rw [hx0] at C0 hb0
      obtain ⟨m, hm⟩ : ∃ m, orL [x1, x0] = m := ⟨_, rfl⟩
      have hmb : m = -1 ∨ m = 0 ∨ m = 1 := by rw [← hm]; unfold orL orL orL; split <;> (try split) <;> omega
      obtain ⟨r, hr⟩ : ∃ r, s * m = r := ⟨_, rfl⟩
      have hrb := mul_bd hs hmb
      rw [hr] at hrb
      have h := HR.out r (by rw [if_neg (by simp [h0]), hx1, hx0, hm, hr])
      have h := Lib.hid h
      have OR := Lib.hid fun v S W h (R : Ending → World → Prop) hR => or_any [x1, x0] v S W h (by simp) (R := R) hR
      rw [hm] at OR
      clear hs ht HR h0 hx1 hx0 hm
      go_enter Try.func97, Try.ntmps97
      go_wp2_with fail
      go_at_call 103
      refine T1.out _ _ ?_
      intro w1 hg1
      have G1 := Lib.hid hg1
      clear hg1
      go_wp2_with fail
      go_at_call 103
      refine T2.out _ _ ?_
      intro w2 hg2
      have G2 := Lib.hid (G1.out.tr hg2)
      clear hg2
      go_wp2_with fail
      obtain ⟨wa, hwa⟩ : ∃ wa, wa = (w2.alloc (.cells #[.int .i64 s, .int .u64 (p1 : Nat), .int .u64 (p0 : Nat)] 144)).alloc (.cells #[.int .i64 s, .int .u64 (q1 : Nat), .int .u64 (q0 : Nat)] 144) := ⟨_, rfl⟩
      rw [← hwa]
      have K0 : Hid (∀ W, Grow wa W → W.heap[w2.heap.size]? = some (.cells #[.int .i64 s, .int .u64 (p1 : Nat), .int .u64 (p0 : Nat)] 144 (0, 0))) := fun W h => by
        subst hwa
        exact blk_al w2 _ _ (((Grow.refl _).al _).tr h)
      have K1 : Hid (∀ W, Grow wa W → W.heap[w2.heap.size + 1]? = some (.cells #[.int .i64 s, .int .u64 (q1 : Nat), .int .u64 (q0 : Nat)] 144 (0, 0))) := fun W h => by
        subst hwa
        have := blk_al _ _ _ h
        rwa [World.size_alloc] at this
      have GA : Hid (Grow w wa) := by subst hwa; exact (G2.out.al _).al _
      clear hwa
      refine wp_region_lexT (Grow wa) ((Grow.refl wa).dr) 18 [0, 1, 2, 3, 4, 5, 6, 7, 9, 10, 11, 12, 13, 14, 8, 15, 16, 17] (by kernel_rfl) (by kernel_rfl) (by intro c a d v w h; cases d <;> exact h) ?_
      iterate 14 (apply lext_take; exact rfl; exact rfl; (intro W hW; have z0 := cell_of_row _ w2.heap.size 0 _ _ (0, 0) (K0.out _ hW); have z1 := cell_of_row _ w2.heap.size 1 _ _ (0, 0) (K0.out _ hW); have z2 := cell_of_row _ w2.heap.size 2 _ _ (0, 0) (K0.out _ hW); have y1 := cell_of_row _ (w2.heap.size + 1) 1 _ _ (0, 0) (K1.out _ hW); have y2 := cell_of_row _ (w2.heap.size + 1) 2 _ _ (0, 0) (K1.out _ hW); (try clear hW); go_simp; with_reducible rfl); try simp only [Act.put, List.setIfInBounds_toArray, List.set_cons_zero, List.set_cons_succ])
      apply lext_turn; exact rfl; exact rfl; exact rfl; intro K hK; go_simp; go_at_call 58; refine C1.out _ _ ?_; refine hK.out _ _ (Grow.refl wa).dr ?_; clear hK
      try simp only [Act.put, List.setIfInBounds_toArray, List.set_cons_zero, List.set_cons_succ]
      apply lext_turn; exact rfl; exact rfl; exact rfl; intro K hK; go_simp; go_at_call 58; refine C0.out _ _ ?_; refine hK.out _ _ (Grow.refl wa).dr ?_; clear hK
      try simp only [Act.put, List.setIfInBounds_toArray, List.set_cons_zero, List.set_cons_succ]
      apply lext_turn; exact rfl; exact rfl; exact rfl; intro K hK; go_simp; refine hK.out _ _ ((Grow.refl wa).dr.al _) ?_; clear hK; try simp only [Act.put, List.setIfInBounds_toArray, List.set_cons_zero, List.set_cons_succ]
      apply lext_turn; exact rfl; exact rfl; exact rfl; intro K hK; go_simp; go_at_call 56; refine OR.out _ _ _ (Rd.lit wa.drew #[.int .i64 x1, .int .i64 x0] _ 2 (by decide) rfl) _ ?_; refine hK.out _ _ ((Grow.refl wa).dr.al _) ?_; clear hK
      try simp only [Act.put, List.setIfInBounds_toArray, List.set_cons_zero, List.set_cons_succ]
      refine lext_nil ?_
      simp only [List.drop_succ_cons, List.drop_zero]
      go_wp2
      exact GA.out.tr (((Grow.refl wa).al _).dr)
  · have t0 : (s != t) = true := by simp [hst]
    have h := HR.out _ (if_pos (Or.inl hst))
    have C := Lib.hid fun W (R : Ending → World → Prop) hR => cmpI_any s t W (R := R) hR
    have h := Lib.hid h
    generalize cmpI' s t = r at *
    clear hs ht HR hst
    go_enter Try.func97, Try.ntmps97
    go_wp2_with fail
    go_at_call 103
    refine T1.out _ _ ?_
    intro w1 hg1
    have G1 := Lib.hid hg1
    clear hg1
    go_wp2_with fail
    go_at_call 103
    refine T2.out _ _ ?_
    intro w2 hg2
    have G2 := Lib.hid (G1.out.tr hg2)
    clear hg2
    go_wp2_with fail
    go_at_call 57
    refine C.out _ _ ?_
    go_wp2
    exact (G2.out.al _).al _

end Go.Proofs.Ytjcgkhcbdbbdkaa
