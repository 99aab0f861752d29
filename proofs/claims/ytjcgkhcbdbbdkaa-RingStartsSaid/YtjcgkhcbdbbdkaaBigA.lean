/-
  Amounts of words: plus, less, size.
-/
import Derived.Test.YtjcgkhcbdbbdkaaChecked
import Derived.Test.YtjcgkhcbdbbdkaaBigW
namespace Go.Proofs.Ytjcgkhcbdbbdkaa
open Go.RowKit Go.Lib

theorem plus_step (v p s A B : Nat) : v + p * (s % 65536) + p * 65536 * (s / 65536 + A + B) = v + p * (s + 65536 * A + 65536 * B) := by
  rw [Nat.mul_assoc, Nat.add_assoc, ← Nat.mul_add]
  congr 2
  omega
theorem less_step {v p x a b c c' A B L La : Nat} (h : v + p * (a + 65536 * A) + L = La + p * (c + (b + 65536 * B))) (e : x % 65536 + c + b = a + 65536 * c') : v + p * (x % 65536) + p * 65536 * A + L = La + p * 65536 * (c' + B) := by
  have h2 := congrArg (p * ·) e
  simp only [Nat.mul_add, ← Nat.mul_assoc] at h h2 ⊢
  omega
theorem vw_snoc (l : List Nat) (x : Nat) : vw (l ++ [x]) = vw l + 65536 ^ l.length * x := by rw [vw_app]; simp [vw]
theorem vw_dropx (l : List Nat) (i : Nat) : ∃ x, x ≤ 65535 * (if i < l.length then 65536 else 0) + x ∧ vw (l.drop i) = x + 65536 * vw (l.drop (i + 1)) := by
  by_cases h : i < l.length
  · exact ⟨l[i], by omega, vw_drop h⟩
  · exact ⟨0, by omega, by rw [List.drop_eq_nil_of_le (by omega), List.drop_eq_nil_of_le (by omega)]; rfl⟩
theorem vw_drop0 {l : List Nat} {i : Nat} (h : ¬ i < l.length) : vw (l.drop i) = 0 + 65536 * vw (l.drop (i + 1)) := by
  rw [List.drop_eq_nil_of_le (by omega), List.drop_eq_nil_of_le (by omega)]; rfl
theorem rd_at {w wr : World} {S : Nat → Prop} {A : Option Addr} {n c : Nat} {xs : List Value} (h : Rd w S 1 (.slice A n c) n xs) (hg : Grow w wr) {j : Nat} {u : Value} (hj : xs[j]? = some u) : ∃ b o, A = some ⟨b, o, none⟩ ∧ wr.cell? ⟨b, o + j, none⟩ = some u := by
  obtain ⟨hl, A', c', hv, h1, h2, h3, h4⟩ := h.gr2 (by decide) hg
  injection hv with e1 _ _
  subst e1
  have hlt := (List.getElem?_eq_some_iff.1 hj).1
  obtain ⟨b, o, rfl, _, hc⟩ := h4 (by omega)
  exact ⟨b, o, rfl, hc j u hj⟩

set_option maxRecDepth 100000 in
set_option maxHeartbeats 2000000 in
theorem plus_any (la lb : List Nat) (a b : Value) (S T : Nat → Prop) (w : World) (ha : Rd w S 1 a la.length (W64 la)) (hb : Rd w T 1 b lb.length (W64 lb)) (hwa : Wd la) (hwb : Wd lb) (hla : la.length ≤ 40000) (hlb : lb.length ≤ 40000) {R : Ending → World → Prop}
    (hR : ∀ r ls w', w'.ownsRow w.heap.size 24 1 r ls.length (W64 ls) → Wd ls → vw ls = vw la + vw lb → ls.length ≤ 80001 → Grow w w' → R (.returned r) w') :
    Calls Try.prog 90 #[a, b] w R := by
  have HR := Lib.hid hR
  obtain ⟨A, ca, rfl, h1, h2⟩ := rd_slice ha
  obtain ⟨B, cb, rfl, k1, k2⟩ := rd_slice hb
  have HA := Lib.hid ha
  have HB := Lib.hid hb
  have WA := Lib.hid hwa
  have WB := Lib.hid hwb
  clear hR ha hb hwa hwb
  go_enter Try.func90, Try.ntmps90
  go_wp2
  go_loopw [5, 6, 7] (fun s5 s6 s7 wr => ∃ (out : List Nat) (c : Nat), s6 = .int .u64 c ∧ s7 = .int .i64 out.length ∧ c ≤ 1 ∧ Hid (Wd out) ∧ out.length ≤ max la.length lb.length + 1 ∧ (out.length = max la.length lb.length + 1 → c = 0) ∧ Hid (vw out + 65536 ^ out.length * (c + vw (la.drop out.length) + vw (lb.drop out.length)) = vw la + vw lb) ∧ wr.ownsRow w.heap.size 24 1 s5 out.length (W64 out) ∧ Hid (Grow w wr)) (fun _ _ s7 _ => max la.length lb.length + 1 - (intOf s7).toNat)
  case atStart => exact ⟨[], 0, rfl, rfl, by omega, by intro x hx; simp at hx, by simp, fun _ => rfl, by show _ = _; simp [vw], World.ownsRow_nil _ _ _ _, Grow.refl _⟩
  case round =>
    obtain ⟨out, c, rfl, rfl, hc1, hwo, hol, hoc, heq, hown, hg⟩ := hrel
    obtain ⟨A5, c5, rfl⟩ := own_slice hown
    by_cases hA : out.length < la.length
    · obtain ⟨b1, o1, rfl, d1⟩ := rd_at HA.out hg.out (W64_at la _ hA)
      have EA := Lib.hid (vw_drop hA)
      have X1 := WA.out _ (List.getElem_mem hA)
      generalize la[out.length]'hA = x at *
      by_cases hB : out.length < lb.length
      · obtain ⟨b2, o2, rfl, d2⟩ := rd_at HB.out hg.out (W64_at lb _ hB)
        have EB := Lib.hid (vw_drop hB)
        have X2 := WB.out _ (List.getElem_mem hB)
        generalize lb[out.length]'hB = y at *
        have HS := Lib.hid (plus_step (vw out) (65536 ^ out.length) (c + x + y) (vw (la.drop (out.length + 1))) (vw (lb.drop (out.length + 1))))
        go_wp2_with (at_builtin; refine wpList_new rfl _ _ rfl el_w64 hown rfl 1 _ rfl (by decide) rfl (by simp [Value.oneCell']) (by omega) hg.out ⟨Nat.le_refl _, hg.out.size⟩ ?_; intro v1 w1 hown1 hg1 hgr1 hb1; have HG1 := Lib.hid hg1; clear hg1 hgr1 hb1)
        go_roundw
        case rel =>
          refine ⟨out ++ [(c + x + y) % 65536], (c + x + y) / 65536, by go_num, by first | go_num | simp, by omega, wd_snoc hwo.out (by omega), by simp <;> omega, by simp <;> omega, ?_, own_eq hown1 (by simp) ?_, HG1⟩
          · show _ = _
            rw [List.length_append, List.length_singleton, vw_snoc, Nat.pow_succ, HS.out, ← heq.out, EA.out, EB.out]
            congr 2
            omega
          · rw [W64_app]; rfl
        case measure => simp [intOf]; omega
      · have EB := Lib.hid (vw_drop0 hB)
        have HS := Lib.hid (plus_step (vw out) (65536 ^ out.length) (c + x) (vw (la.drop (out.length + 1))) (vw (lb.drop (out.length + 1))))
        go_wp2_with (at_builtin; refine wpList_new rfl _ _ rfl el_w64 hown rfl 1 _ rfl (by decide) rfl (by simp [Value.oneCell']) (by omega) hg.out ⟨Nat.le_refl _, hg.out.size⟩ ?_; intro v1 w1 hown1 hg1 hgr1 hb1; have HG1 := Lib.hid hg1; clear hg1 hgr1 hb1)
        go_roundw
        case rel =>
          refine ⟨out ++ [(c + x) % 65536], (c + x) / 65536, by go_num, by first | go_num | simp, by omega, wd_snoc hwo.out (by omega), by simp <;> omega, by simp <;> omega, ?_, own_eq hown1 (by simp) ?_, HG1⟩
          · show _ = _
            rw [List.length_append, List.length_singleton, vw_snoc, Nat.pow_succ, HS.out, ← heq.out, EA.out, EB.out]
            congr 2
            omega
          · rw [W64_app]; rfl
        case measure => simp [intOf]; omega
    · have EA := Lib.hid (vw_drop0 hA)
      by_cases hB : out.length < lb.length
      · obtain ⟨b2, o2, rfl, d2⟩ := rd_at HB.out hg.out (W64_at lb _ hB)
        have EB := Lib.hid (vw_drop hB)
        have X2 := WB.out _ (List.getElem_mem hB)
        generalize lb[out.length]'hB = y at *
        have HS := Lib.hid (plus_step (vw out) (65536 ^ out.length) (c + y) (vw (la.drop (out.length + 1))) (vw (lb.drop (out.length + 1))))
        go_wp2_with (at_builtin; refine wpList_new rfl _ _ rfl el_w64 hown rfl 1 _ rfl (by decide) rfl (by simp [Value.oneCell']) (by omega) hg.out ⟨Nat.le_refl _, hg.out.size⟩ ?_; intro v1 w1 hown1 hg1 hgr1 hb1; have HG1 := Lib.hid hg1; clear hg1 hgr1 hb1)
        go_roundw
        case rel =>
          refine ⟨out ++ [(c + y) % 65536], (c + y) / 65536, by go_num, by first | go_num | simp, by omega, wd_snoc hwo.out (by omega), by simp <;> omega, by simp <;> omega, ?_, own_eq hown1 (by simp) ?_, HG1⟩
          · show _ = _
            rw [List.length_append, List.length_singleton, vw_snoc, Nat.pow_succ, HS.out, ← heq.out, EA.out, EB.out]
            congr 2
            omega
          · rw [W64_app]; rfl
        case measure => simp [intOf]; omega
      · have EB := Lib.hid (vw_drop0 hB)
        by_cases h0 : c = 0
        · subst h0
          have e := heq.out
          rw [List.drop_eq_nil_of_le (by omega), List.drop_eq_nil_of_le (by omega)] at e
          have h := HR.out _ out _ hown hwo.out (by simpa [vw] using e) (by omega) hg.out
          clear EA EB heq hoc
          go_wp2
          exact h
        · have t0 : decide ((0 : Int) < (c : Nat)) = true := by simp; omega
          have HS := Lib.hid (plus_step (vw out) (65536 ^ out.length) (c) (vw (la.drop (out.length + 1))) (vw (lb.drop (out.length + 1))))
          go_wp2_with (at_builtin; refine wpList_new rfl _ _ rfl el_w64 hown rfl 1 _ rfl (by decide) rfl (by simp [Value.oneCell']) (by omega) hg.out ⟨Nat.le_refl _, hg.out.size⟩ ?_; intro v1 w1 hown1 hg1 hgr1 hb1; have HG1 := Lib.hid hg1; clear hg1 hgr1 hb1)
          go_roundw
          case rel =>
            refine ⟨out ++ [(c) % 65536], (c) / 65536, by go_num, by first | go_num | simp, by omega, wd_snoc hwo.out (by omega), by simp <;> omega, by simp <;> omega, ?_, own_eq hown1 (by simp) ?_, HG1⟩
            · show _ = _
              rw [List.length_append, List.length_singleton, vw_snoc, Nat.pow_succ, HS.out, ← heq.out, EA.out, EB.out]
              congr 2
              omega
            · rw [W64_app]; rfl
          case measure => simp [intOf]; omega

set_option maxRecDepth 100000 in
set_option maxHeartbeats 2000000 in
theorem less_any (la lb : List Nat) (a b : Value) (S T : Nat → Prop) (w : World) (ha : Rd w S 1 a la.length (W64 la)) (hb : Rd w T 1 b lb.length (W64 lb)) (hwa : Wd la) (hwb : Wd lb) (hla : la.length ≤ 40000) (hlb : lb.length ≤ 40000) (hle : vw lb ≤ vw la) {R : Ending → World → Prop}
    (hR : ∀ r ls w', w'.ownsRow w.heap.size 24 1 r ls.length (W64 ls) → Wd ls → vw ls = vw la - vw lb → ls.length ≤ 80001 → Grow w w' → R (.returned r) w') :
    Calls Try.prog 92 #[a, b] w R := by
  have HR := Lib.hid hR
  obtain ⟨A, ca, rfl, h1, h2⟩ := rd_slice ha
  obtain ⟨B, cb, rfl, k1, k2⟩ := rd_slice hb
  have HA := Lib.hid ha
  have HB := Lib.hid hb
  have WA := Lib.hid hwa
  have WB := Lib.hid hwb
  have HLE := Lib.hid hle
  clear hR ha hb hwa hwb hle
  go_enter Try.func92, Try.ntmps92
  go_wp2
  go_loopw [5, 6, 7] (fun s5 s6 s7 wr => ∃ (out : List Nat) (c : Nat), s6 = .int .u64 c ∧ s7 = .int .i64 out.length ∧ c ≤ 1 ∧ Hid (Wd out) ∧ out.length ≤ la.length ∧ Hid (vw out + 65536 ^ out.length * vw (la.drop out.length) + vw lb = vw la + 65536 ^ out.length * (c + vw (lb.drop out.length))) ∧ wr.ownsRow w.heap.size 24 1 s5 out.length (W64 out) ∧ Hid (Grow w wr)) (fun _ _ s7 _ => la.length - (intOf s7).toNat)
  case atStart => exact ⟨[], 0, rfl, rfl, by omega, by intro x hx; simp at hx, by simp, by show _ = _; simp [vw], World.ownsRow_nil _ _ _ _, Grow.refl _⟩
  case round =>
    obtain ⟨out, c, rfl, rfl, hc1, hwo, hol, heq, hown, hg⟩ := hrel
    obtain ⟨A5, c5, rfl⟩ := own_slice hown
    by_cases hA : out.length < la.length
    · obtain ⟨b1, o1, rfl, d1⟩ := rd_at HA.out hg.out (W64_at la _ hA)
      have EA := Lib.hid (vw_drop hA)
      have X1 := WA.out _ (List.getElem_mem hA)
      generalize la[out.length]'hA = x at *
      by_cases hB : out.length < lb.length
      · obtain ⟨b2, o2, rfl, d2⟩ := rd_at HB.out hg.out (W64_at lb _ hB)
        have EB := Lib.hid (vw_drop hB)
        have X2 := WB.out _ (List.getElem_mem hB)
        generalize lb[out.length]'hB = y at *
        have HS := Lib.hid (fun h => less_step (v := vw out) (p := 65536 ^ out.length) (x := x + 65536 - c - y) (a := x) (b := y) (c := c) (c' := 1 - (x + 65536 - c - y) / 65536) (A := vw (la.drop (out.length + 1))) (B := vw (lb.drop (out.length + 1))) (L := vw lb) (La := vw la) h (by omega))
        have hs1 : ((x : Int) + 65536 - c) = ((x + 65536 - c : Nat) : Int) := by omega
        have hs2 : (((x + 65536 - c : Nat) : Int) - y) = ((x + 65536 - c - y : Nat) : Int) := by omega
        go_wp2_with (at_builtin; refine wpList_new rfl _ _ rfl el_w64 hown rfl 1 _ rfl (by decide) rfl (by simp [Value.oneCell']) (by omega) hg.out ⟨Nat.le_refl _, hg.out.size⟩ ?_; intro v1 w1 hown1 hg1 hgr1 hb1; have HG1 := Lib.hid hg1; clear hg1 hgr1 hb1)
        go_roundw
        case rel =>
          refine ⟨out ++ [(x + 65536 - c - y) % 65536], 1 - (x + 65536 - c - y) / 65536, by go_num, by first | go_num | simp, by omega, wd_snoc hwo.out (by omega), by simp <;> omega, ?_, own_eq hown1 (by simp) ?_, HG1⟩
          · show _ = _
            rw [List.length_append, List.length_singleton, vw_snoc, Nat.pow_succ]
            refine HS.out ?_
            rw [← EA.out, ← EB.out]
            exact heq.out
          · rw [W64_app]; first | rfl | (simp [W64]; omega)
        case measure => simp [intOf]; omega
      · have EB := Lib.hid (vw_drop0 hB)
        have HS := Lib.hid (fun h => less_step (v := vw out) (p := 65536 ^ out.length) (x := x + 65536 - c) (a := x) (b := 0) (c := c) (c' := 1 - (x + 65536 - c) / 65536) (A := vw (la.drop (out.length + 1))) (B := vw (lb.drop (out.length + 1))) (L := vw lb) (La := vw la) h (by omega))
        have hs1 : ((x : Int) + 65536 - c) = ((x + 65536 - c : Nat) : Int) := by omega
        skip
        go_wp2_with (at_builtin; refine wpList_new rfl _ _ rfl el_w64 hown rfl 1 _ rfl (by decide) rfl (by simp [Value.oneCell']) (by omega) hg.out ⟨Nat.le_refl _, hg.out.size⟩ ?_; intro v1 w1 hown1 hg1 hgr1 hb1; have HG1 := Lib.hid hg1; clear hg1 hgr1 hb1)
        go_roundw
        case rel =>
          refine ⟨out ++ [(x + 65536 - c) % 65536], 1 - (x + 65536 - c) / 65536, by go_num, by first | go_num | simp, by omega, wd_snoc hwo.out (by omega), by simp <;> omega, ?_, own_eq hown1 (by simp) ?_, HG1⟩
          · show _ = _
            rw [List.length_append, List.length_singleton, vw_snoc, Nat.pow_succ]
            refine HS.out ?_
            rw [← EA.out, ← EB.out]
            exact heq.out
          · rw [W64_app]; first | rfl | (simp [W64]; omega)
        case measure => simp [intOf]; omega
    · obtain hA : out.length = la.length := by omega
      have e := heq.out
      have hv := vw_lt _ hwo.out
      rw [List.drop_eq_nil_of_le (show la.length ≤ out.length by omega)] at e
      have hfin : vw out = vw la - vw lb := by
        have hle := HLE.out
        generalize 65536 ^ out.length = p at *
        generalize c + vw (lb.drop out.length) = q at *
        simp only [vw] at e
        rcases Nat.eq_zero_or_pos q with h0 | h0
        · subst h0; omega
        · have := Nat.mul_le_mul_left p h0
          omega
      have h := HR.out _ out _ hown hwo.out hfin (by omega) hg.out
      clear heq e hfin hv
      go_wp2
      exact h

set_option maxRecDepth 100000 in
set_option maxHeartbeats 2000000 in
theorem size_any (x y : Nat) (a b : Value) (S T : Nat → Prop) (w : World) (ha : Rd w S 1 a (wds x).length (W64 (wds x))) (hb : Rd w T 1 b (wds y).length (W64 (wds y))) (hla : (wds x).length ≤ 100000) {R : Ending → World → Prop}
    (hR : ∀ w', Grow w w' → R (.returned (.int .i64 (if x < y then -1 else if y < x then 1 else 0))) w') :
    Calls Try.prog 91 #[a, b] w R := by
  have HR := Lib.hid hR
  obtain ⟨A, ca, rfl, h1, h2⟩ := rd_slice ha
  obtain ⟨B, cb, rfl, k1, k2⟩ := rd_slice hb
  have HA := Lib.hid ha
  have HB := Lib.hid hb
  have WA := Lib.hid (wd_wds x)
  have WB := Lib.hid (wd_wds y)
  have VA := Lib.hid (vw_wds x)
  have VB := Lib.hid (vw_wds y)
  have HLT := Lib.hid (@vw_len_lt x y)
  have HGT := Lib.hid (@vw_len_lt y x)
  clear hR ha hb
  generalize wds x = la at *
  generalize wds y = lb at *
  by_cases hne : la.length = lb.length
  · have t1 : ((la.length : Int) != lb.length) = false := by simp; omega
    have hne := Lib.hid hne
    have hsub0 : ((la.length : Int) - 1) = (la.length : Int) - 1 := rfl
    go_enter Try.func91, Try.ntmps91
    go_wp2
    go_loopw [5] (fun s5 wr => ∃ (k q : Nat) (z : Int), k ≤ la.length ∧ z = (k : Int) - 1 ∧ s5 = .int .i64 z ∧ Hid (la.drop k = lb.drop k) ∧ wr = w.drewN q) (fun s5 _ => (intOf s5 + 1).toNat)
    case atStart => exact ⟨la.length, 0, (la.length : Int) - 1, Nat.le_refl _, rfl, by go_num, by show _ = _; rw [List.drop_length, hne.out, List.drop_length], rfl⟩
    case round =>
      obtain ⟨k, q, z, hk, hz, rfl, hd, rfl⟩ := hrel
      rcases Nat.eq_zero_or_pos k with h0 | h0
      · subst h0
        have e : x = y := by rw [← VA.out, ← VB.out]; have := hd.out; simpa using congrArg vw this
        have h := HR.out _ ((Grow.refl w).dn q)
        rw [if_neg (by omega), if_neg (by omega)] at h
        obtain rfl : z = -1 := by omega
        clear e hz
        go_wp2
        exact h
      · obtain ⟨j, rfl⟩ : ∃ j, k = j + 1 := ⟨k - 1, by omega⟩
        have hlt : j < la.length := by omega
        have hlt2 : j < lb.length := by have := hne.out; omega
        obtain rfl : z = (j : Int) := by omega
        obtain ⟨b1, o1, rfl, d1⟩ := rd_at HA.out (Grow.refl w) (W64_at la _ hlt)
        obtain ⟨b2, o2, rfl, d2⟩ := rd_at HB.out (Grow.refl w) (W64_at lb _ hlt2)
        have X1 := WA.out _ (List.getElem_mem hlt)
        have X2 := WB.out _ (List.getElem_mem hlt2)
        have L1 := Lib.hid (vw_below WA.out hlt hlt2 hd.out)
        have L2 := Lib.hid (vw_below WB.out hlt2 hlt hd.out.symm)
        have L3 : Hid (la[j]'hlt = lb[j]'hlt2 → la.drop j = lb.drop j) := fun h => by
          rw [List.drop_eq_getElem_cons hlt, List.drop_eq_getElem_cons hlt2, h, hd.out]
        generalize la[j]'hlt = p at *
        generalize lb[j]'hlt2 = r at *
        have hsub : (((j : Nat) : Int) - 1) = (j : Int) - 1 := rfl
        by_cases hpr : p < r
        · have t2 : decide (p < r) = true := decide_eq_true hpr
          have hxy : x < y := by have := L1.out hpr; rw [VA.out, VB.out] at this; exact this
          have h := Lib.hid fun W (g : Grow w W) => show R (.returned (.int .i64 (-1))) W by have := HR.out W g; rwa [if_pos hxy] at this
          clear hz hd L1 L2 L3 hpr hxy
          go_wp2
          go_quiet (fail)
          go_wp2
          exact h.out _ (((Grow.refl w).dn _).dn _)
        · have t2 : decide (p < r) = false := decide_eq_false hpr
          by_cases hrp : r < p
          · have t3 : decide (r < p) = true := decide_eq_true hrp
            rw [VA.out, VB.out] at L2
            have hyx := L2.out hrp
            have h := Lib.hid fun W (g : Grow w W) => show R (.returned (.int .i64 1)) W by have := HR.out W g; rwa [if_neg (by omega), if_pos hyx] at this
            clear hz hd L1 L2 L3 hpr hrp hyx
            go_wp2
            go_quiet (fail)
            go_wp2
            go_quiet (fail)
            go_wp2
            exact h.out _ ((((Grow.refl w).dn _).dn _).dn _)
          · have t3 : decide (r < p) = false := decide_eq_false hrp
            have L3 := Lib.hid (L3.out (by omega))
            clear hz hd L1 L2 hpr hrp
            go_wp2
            go_quiet (fail)
            go_wp2
            go_quiet (fail)
            go_wp2
            go_roundw
            case rel => exact ⟨j, _, (j : Int) - 1, by omega, rfl, by go_num, L3.out, rfl⟩
            case measure => simp [intOf] <;> omega
  · have t1 : ((la.length : Int) != lb.length) = true := by simp; omega
    by_cases hlt : la.length < lb.length
    · have t2 : decide (la.length < lb.length) = true := decide_eq_true hlt
      have h := HR.out _ (Grow.refl w)
      rw [if_pos (HLT.out hlt)] at h
      clear hne hlt
      go_enter Try.func91, Try.ntmps91
      go_wp2
      exact h
    · have t2 : decide (la.length < lb.length) = false := decide_eq_false hlt
      have h := HR.out _ (Grow.refl w)
      have hyx := HGT.out (by omega)
      rw [if_neg (by omega), if_pos hyx] at h
      clear hne hlt hyx
      go_enter Try.func91, Try.ntmps91
      go_wp2
      exact h
end Go.Proofs.Ytjcgkhcbdbbdkaa
