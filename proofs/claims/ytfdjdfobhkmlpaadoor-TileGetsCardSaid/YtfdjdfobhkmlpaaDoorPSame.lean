import Derived.Test.YtfdjdfobhkmlpaaDoorChecked
import Derived.Test.YtfdjdfobhkmlpaaDoorRowsA
namespace Go.Proofs.YtfdjdfobhkmlpaaDoor
open Go.RowKit

set_option maxRecDepth 100000 in
set_option maxHeartbeats 1000000 in
theorem pEqual_any (a b : Value) (la lb : List Pt) (S T : Nat → Prop) (w : World) (ha : Rd w S 2 a la.length (Pts la)) (hb : Rd w T 2 b lb.length (Pts lb)) {R : Ending → World → Prop}
    (hR : ∀ w', Grow w w' → R (.returned (.bool (decide (la = lb)))) w') :
    Calls Tryd.prog 83 #[a, b] w R := by
  have ha := ha.lt (by decide)
  have hb := hb.lt (by decide)
  obtain ⟨_, A, c, rfl, h1, h2, h3, h4⟩ := ha
  obtain ⟨_, B, d, rfl, k1, k2, k3, k4⟩ := hb
  unfold maxLen at h2 k2
  have HR := Lib.hid hR
  clear hR
  by_cases hl : la.length = lb.length
  · have heq : ((la.length : Int) != lb.length) = false := by simp; omega
    have hl := Lib.hid hl
    go_enter Tryd.func83, Tryd.ntmps83
    go_wp2
    go_loopw [13] (fun i wr => ∃ k : Nat, k ≤ la.length ∧ i = .int .i64 k ∧ Hid (la.take k = lb.take k) ∧ ∃ n, wr = w.drewN n) (fun i _ => la.length - (intOf i).toNat)
    case atStart => exact ⟨0, Nat.zero_le _, rfl, rfl, 0, rfl⟩
    case round =>
      obtain ⟨k, hk, rfl, ht, n, rfl⟩ := hrel
      by_cases hlt : k < la.length
      · have hlt2 : k < lb.length := by rw [← hl.out]; exact hlt
        obtain ⟨b1, o1, rfl, hb1, hc1⟩ := h4 (by omega)
        obtain ⟨b2, o2, rfl, hb2, hc2⟩ := k4 (by omega)
        have e1 := flat_cells Pt.cells_len (Grow.refl w) hb1 hc1 hlt
        have e2 := flat_cells Pt.cells_len (Grow.refl w) hb2 hc2 hlt2
        clear hc1 hc2 h4 k4 h3 k3
        generalize hx : la[k] = x at *
        generalize hy : lb[k] = y at *
        obtain ⟨x1, x2⟩ := x
        obtain ⟨y1, y2⟩ := y
        have c1 := e1 0 _ rfl
        have c2 := e1 1 _ rfl
        have d1 := e2 0 _ rfl
        have d2 := e2 1 _ rfl
        simp only [Nat.add_zero] at c1 d1
        clear e1 e2
        have Hx := Lib.hid hx
        have Hy := Lib.hid hy
        clear hx hy
        have no : Hid (¬ (x1 = y1 ∧ x2 = y2) → decide (la = lb) = false) := by
          intro h
          refine decide_eq_false ?_
          rintro rfl
          have := Hx.out.symm.trans Hy.out
          simp only [Pt.mk.injEq] at this
          exact h this
        have yes : Hid (x1 = y1 ∧ x2 = y2 → la.take (k + 1) = lb.take (k + 1)) := by
          rintro ⟨rfl, rfl⟩
          exact take_succ_eq hlt hlt2 ht.out (Hx.out.trans Hy.out.symm)
        cases t1 : (x1 != y1)
        · cases t2 : (x2 != y2)
          · have E1 : x1 = y1 := by simpa using t1
            have E2 : x2 = y2 := by simpa using t2
            subst E1 E2
            clear t1 t2
            go_wp2
            go_quiet (fail)
            go_wp2
            go_roundw
            case rel => exact ⟨k + 1, by omega, by go_num, yes.out (by simp), _, rfl⟩
            case measure => simp [intOf]; omega
          · have E1 : x1 = y1 := by simpa using t1
            subst E1
            have t3 : (x2 == y2) = false := by simpa using t2
            have hno : Hid (decide (la = lb) = false) := no.out (by rintro ⟨_, rfl⟩; simp at t2)
            clear t1
            go_wp2
            go_quiet (fail)
            go_wp2
            have h := HR.out
            rw [hno.out] at h
            exact h _ (((Grow.refl w).dn _).tr ((Grow.refl _).dn _))
        · have t3 : (x1 == y1) = false := by simpa using t1
          have hno : Hid (decide (la = lb) = false) := no.out (by rintro ⟨rfl, _⟩; simp at t1)
          go_wp2
          go_quiet (fail)
          go_wp2
          have h := HR.out
          rw [hno.out] at h
          exact h _ (((Grow.refl w).dn _).tr ((Grow.refl _).dn _))
      · have : k = la.length := by omega
        subst this
        go_wp2
        have hxy : la = lb := by
          have := ht.out
          rw [List.take_length, hl.out, List.take_length] at this
          exact this
        have h := HR.out
        rw [decide_eq_true hxy] at h
        exact h _ ((Grow.refl w).dn _)
  · have heq : ((la.length : Int) != lb.length) = true := by simp; omega
    go_enter Tryd.func83, Tryd.ntmps83
    go_wp2
    have hxy : ¬ la = lb := by rintro rfl; exact hl rfl
    have h := HR.out
    rw [decide_eq_false hxy] at h
    exact h _ (Grow.refl _)

set_option maxRecDepth 100000 in
set_option maxHeartbeats 4000000 in
theorem pEqualFunc_any (a b : Value) (A B : List PRow) (S T S' T' : Nat → Prop) (w : World) (ha : Rd w S 1 a A.length (A.map PRow.v)) (hA : ∀ r ∈ A, r.rd w S') (hb : Rd w T 1 b B.length (B.map PRow.v)) (hB : ∀ r ∈ B, r.rd w T') {R : Ending → World → Prop}
    (hR : ∀ w', Grow w w' → R (.returned (.bool (decide (A.map PRow.l = B.map PRow.l)))) w') :
    Calls Tryd.prog 82 #[a, b, .func (.func 83) #[] #[]] w R := by
  have HR := Lib.hid hR
  clear hR
  have HA0 := Lib.hid ha
  have HB0 := Lib.hid hb
  obtain ⟨_, A0, c, rfl, h1, h2, h3, h4⟩ := ha
  obtain ⟨_, B0, d, rfl, k1, k2, k3, k4⟩ := hb
  have HA := Lib.hid hA
  have HB := Lib.hid hB
  unfold maxLen at h2 k2
  clear hA hB
  by_cases hl : A.length = B.length
  · have heq : ((A.length : Int) != B.length) = false := by simp; omega
    have HLE := Lib.hid hl
    clear hl
    go_enter Tryd.func82, Tryd.ntmps82
    go_wp2
    clear heq
    go_loopw [17] (fun i wr => ∃ k : Nat, k ≤ A.length ∧ i = .int .i64 k ∧ Hid (Grow w wr) ∧ Hid ((A.map PRow.l).take k = (B.map PRow.l).take k)) (fun i _ => A.length - (intOf i).toNat)
    case atStart => exact ⟨0, Nat.zero_le _, rfl, Grow.refl _, rfl⟩
    case round =>
      obtain ⟨k, hk, rfl, hg, ht⟩ := hrel
      by_cases hlt : k < A.length
      · have hlt2 : k < B.length := by rw [← HLE.out]; exact hlt
        obtain ⟨b1, o1, rfl, -, -⟩ := h4 (by omega)
        obtain ⟨b2, o2, rfl, -, -⟩ := k4 (by omega)
        have c1 : wr.cell? ⟨b1, o1 + k, none⟩ = some (A[k]'hlt).v := by
          have := rd_cell hg.out HA0.out rfl (i := k) (by simpa using hlt)
          rw [List.getElem_map] at this
          exact this
        have c2 : wr.cell? ⟨b2, o2 + k, none⟩ = some (B[k]'hlt2).v := by
          have := rd_cell hg.out HB0.out rfl (i := k) (by simpa using hlt2)
          rw [List.getElem_map] at this
          exact this
        have r1 := HA.out (A[k]'hlt) (List.getElem_mem hlt)
        have r2 := HB.out (B[k]'hlt2) (List.getElem_mem hlt2)
        have YES : Hid ((A[k]'hlt).l = (B[k]'hlt2).l → (A.map PRow.l).take (k + 1) = (B.map PRow.l).take (k + 1)) := by
          intro h
          exact take_succ_eq (by simpa using hlt) (by simpa using hlt2) ht.out (by simpa using h)
        have NO : Hid (¬ (A[k]'hlt).l = (B[k]'hlt2).l → decide (A.map PRow.l = B.map PRow.l) = false) := by
          intro h
          refine decide_eq_false fun e => h ?_
          have e1 : (A.map PRow.l)[k]? = (B.map PRow.l)[k]? := by rw [e]
          simpa [hlt, hlt2] using e1
        clear h3 h4 k3 k4 ht
        generalize A[k]'hlt = ra at *
        generalize B[k]'hlt2 = rb at *
        obtain ⟨v1, l1⟩ := ra
        obtain ⟨v2, l2⟩ := rb
        unfold PRow.rd at r1 r2
        dsimp only at *
        have HX := Lib.hid fun (R : Ending → World → Prop) hR => pEqual_any v1 v2 l1 l2 _ _ wr (r1.gr2 (by decide) hg.out) (r2.gr2 (by decide) hg.out) (R := R) hR
        clear r1 r2
        by_cases hll : l1 = l2
        · have Y2 := Lib.hid (YES.out hll)
          rw [decide_eq_true hll] at HX
          clear hll
          go_wp2_with (go_at_call 83; refine HX.out _ ?_; intro w1 hg1; have G1 := Lib.hid (hg.out.tr hg1); clear hg1)
          go_roundw
          case rel => exact ⟨k + 1, by omega, by go_num, G1.out, Y2.out⟩
          case measure => simp [intOf]; omega
        · have N2 := Lib.hid (NO.out hll)
          rw [decide_eq_false hll] at HX
          clear hll
          go_wp2_with (go_at_call 83; refine HX.out _ ?_; intro w1 hg1; have G1 := Lib.hid (hg.out.tr hg1); clear hg1)
          have h := HR.out
          rw [N2.out] at h
          exact h _ G1.out
      · have : k = A.length := by omega
        subst this
        go_wp2
        have hxy : A.map PRow.l = B.map PRow.l := by
          have := ht.out
          rw [List.take_of_length_le (by simp), List.take_of_length_le (by rw [List.length_map, HLE.out]; exact Nat.le_refl _)] at this
          exact this
        have h := HR.out
        rw [decide_eq_true hxy] at h
        exact h _ hg.out
  · have heq : ((A.length : Int) != B.length) = true := by simp; omega
    go_enter Tryd.func82, Tryd.ntmps82
    go_wp2
    have hxy : ¬ A.map PRow.l = B.map PRow.l := by
      intro h
      have := congrArg List.length h
      simp at this
      exact hl this
    have h := HR.out
    rw [decide_eq_false hxy] at h
    exact h _ (Grow.refl _)

set_option maxRecDepth 100000 in
set_option maxHeartbeats 1000000 in
theorem pathSame_any (a b : Value) (A B : List PRow) (S T S' T' : Nat → Prop) (w : World) (ha : Rd w S 1 a A.length (A.map PRow.v)) (hA : ∀ r ∈ A, r.rd w S') (hb : Rd w T 1 b B.length (B.map PRow.v)) (hB : ∀ r ∈ B, r.rd w T') {R : Ending → World → Prop}
    (hR : ∀ w', Grow w w' → R (.returned (.bool (decide (A.map PRow.l = B.map PRow.l)))) w') :
    Calls Tryd.prog 49 #[a, b] w R := by
  have HR := Lib.hid hR
  have HX := Lib.hid fun (R : Ending → World → Prop) hR => pEqualFunc_any a b A B _ _ _ _ w ha hA hb hB (R := R) hR
  clear hR ha hb hA hB
  generalize decide (A.map PRow.l = B.map PRow.l) = bb at *
  go_enter Tryd.func49, Tryd.ntmps49
  go_wp2_with fail
  refine HX.out _ ?_
  intro w1 hg1
  go_wp2
  exact HR.out _ hg1

set_option maxRecDepth 100000 in
set_option maxHeartbeats 2000000 in
theorem much_any (a : Value) (A : List PRow) (S S' : Nat → Prop) (w : World) (ha : Rd w S 1 a A.length (A.map PRow.v)) (hA : ∀ r ∈ A, r.rd w S') {R : Ending → World → Prop}
    (hR : ∀ b w', Grow w w' → R (.returned (.bool b)) w') :
    Calls Tryd.prog 20 #[a] w R := by
  have HR := Lib.hid hR
  clear hR
  have HA0 := Lib.hid ha
  obtain ⟨_, A0, c, rfl, h1, h2, h3, h4⟩ := ha
  have HA := Lib.hid hA
  unfold maxLen at h2
  clear hA
  go_enter Tryd.func20, Tryd.ntmps20
  go_wp2
  go_loopw [4, 3] (fun i s wr => ∃ (k : Nat) (n : Int), k ≤ A.length ∧ i = .int .i64 k ∧ s = .int .i64 n ∧ Hid (Grow w wr)) (fun i _ _ => A.length - (intOf i).toNat)
  case atStart => exact ⟨0, 0, Nat.zero_le _, rfl, rfl, Grow.refl _⟩
  case round =>
    obtain ⟨k, n, hk, rfl, rfl, hg⟩ := hrel
    by_cases hlt : k < A.length
    · by_cases h40 : k < 40
      · obtain ⟨b1, o1, rfl, -, -⟩ := h4 (by omega)
        have c1 : wr.cell? ⟨b1, o1 + k, none⟩ = some (A[k]'hlt).v := by
          have := rd_cell hg.out HA0.out rfl (i := k) (by simpa using hlt)
          rw [List.getElem_map] at this
          exact this
        have r1 := HA.out (A[k]'hlt) (List.getElem_mem hlt)
        clear h3 h4
        generalize A[k]'hlt = ra at *
        obtain ⟨v1, l1⟩ := ra
        unfold PRow.rd at r1
        dsimp only at *
        obtain ⟨_, X, cx, rfl, x1, x2, -, -⟩ := r1
        unfold maxLen at x2
        go_wp2
        · exact HR.out _ _ hg.out
        · go_roundw
          case rel => exact ⟨k + 1, _, by omega, by go_num, rfl, hg.out⟩
          case measure => simp [intOf]; omega
      · have t40 : decide ((k : Int) < 40) = false := by simp; omega
        go_wp2
        exact HR.out _ _ hg.out
    · obtain rfl : k = A.length := by omega
      go_wp2
      exact HR.out _ _ hg.out
end Go.Proofs.YtfdjdfobhkmlpaaDoor
