/-
  Whole numbers of words: Mul.
-/
import Derived.Test.YtjcgkhcbdbbdkaaChecked
import Derived.Test.YtjcgkhcbdbbdkaaBigS
import Derived.Deep.OwnRows
namespace Go.Proofs.Ytjcgkhcbdbbdkaa
open Go.RowKit Go.Lib B


theorem mk_w64 (n : Nat) (hn : n ≤ 1000000) (w : World) : (Instr.makeSlice 31 (.int .i64 (n : Int)) (.int .i64 (n : Int))).run Try.prog w = .ok (.slice (some ⟨w.heap.size, 0, none⟩) n n) (w.alloc (.cells (madeCells #[.int .u64 0] n) 24)) :=
  run_make_row' 31 24 (.int .u64 0) 8 (by kernel_rfl) (by kernel_rfl) rfl .i64 .i64 n (by omega) (by omega) w
theorem made_w64 (n : Nat) : (madeCells #[.int .u64 0] n).toList = W64 (List.replicate n 0) := by
  rw [toList_madeCells_one]; simp [W64]
theorem wd_zero (n : Nat) : Wd (List.replicate n 0) := fun x hx => by rw [(List.mem_replicate.1 hx).2]; decide
theorem vw_rep (n : Nat) : vw (List.replicate n 0) = 0 := vw_zero _ fun x hx => (List.mem_replicate.1 hx).2
/-- one step of the inner loop: place j gets t's low word, and the rest is carried -/
theorem mul_step {P t Q V c m z : Nat} (hV : V + P * m = Q + P * (t % 65536)) (ht : t = c + m + z) : V + P * 65536 * (t / 65536) = Q + P * c + P * z := by
  have h : P * t = P * (t % 65536) + P * 65536 * (t / 65536) := by
    rw [Nat.mul_assoc, ← Nat.mul_add]
    congr 1
    omega
  have h2 : P * t = P * c + P * m + P * z := by rw [ht, Nat.mul_add, Nat.mul_add]
  omega
theorem mul_next {i k a b Q u : Nat} : Q + 65536 ^ i * (a * u) + 65536 ^ (i + k) * (a * b) = Q + 65536 ^ i * (a * (u + 65536 ^ k * b)) := by
  rw [Nat.pow_add, Nat.mul_add, Nat.mul_add, Nat.add_assoc, Nat.mul_assoc, Nat.mul_left_comm (65536 ^ k)]
theorem mul_out {i a u L : Nat} : u * L + 65536 ^ i * (a * L) = (u + 65536 ^ i * a) * L := by
  rw [Nat.add_mul, Nat.mul_assoc]
theorem vw_set0 {l : List Nat} {j y : Nat} (hj : j < l.length) (h0 : l[j] = 0) : vw (l.set j y) = vw l + 65536 ^ j * y := by
  have := vw_set l j y hj
  rw [h0] at this
  simpa using this

set_option maxRecDepth 100000 in
set_option maxHeartbeats 2000000 in
theorem mul_any (x y : Int) (k1 k2 : Nat) (a b : Value) (S T : Nat → Prop) (w : World) (ha : BigR w S a x k1) (hb : BigR w T b y k2) (hk1 : k1 ≤ 30000) (hk2 : k2 ≤ 30000) {R : Ending → World → Prop}
    (hR : ∀ r w', Grow w w' → BigR w' (fun b => w.heap.size ≤ b) r (x * y) (k1 + k2) → R (.returned r) w') :
    Calls Try.prog 61 #[a, b] w R := by
  have HR := Lib.hid hR
  clear hR
  obtain ⟨l1, m1, rfl, hm1⟩ := ha
  obtain ⟨l2, m2, rfl, hm2⟩ := hb
  obtain ⟨A1, c1, rfl, g11, g12⟩ := rd_slice hm1
  obtain ⟨A2, c2, rfl, g21, g22⟩ := rd_slice hm2
  have KB : Hid ((wds (x * y).natAbs).length ≤ k1 + k2) := by
    show _ ≤ _
    have := wds_mul_len x.natAbs y.natAbs
    rw [Int.natAbs_mul]
    omega
  have SG : Hid (sg (decide (x < 0) != decide (y < 0)) (x.natAbs * y.natAbs) = x * y) := by
    show _ = _
    by_cases hx : x < 0 <;> by_cases hy : y < 0 <;> simp only [sg, hx, hy, decide_true, decide_false, bne_self_eq_false, Bool.false_eq_true, if_false, if_true, Bool.true_bne, Bool.false_bne, Bool.not_true, Bool.not_false]
    all_goals rw [Int.natCast_mul]
    · rw [Int.ofNat_natAbs_of_nonpos (Int.le_of_lt hx), Int.ofNat_natAbs_of_nonpos (Int.le_of_lt hy), Int.neg_mul_neg]
    · rw [Int.ofNat_natAbs_of_nonpos (Int.le_of_lt hx), Int.natAbs_of_nonneg (by omega), Int.neg_mul, Int.neg_neg]
    · rw [Int.ofNat_natAbs_of_nonpos (Int.le_of_lt hy), Int.natAbs_of_nonneg (by omega), Int.mul_neg, Int.neg_neg]
    · rw [Int.natAbs_of_nonneg (by omega), Int.natAbs_of_nonneg (by omega)]
  have HM1 := Lib.hid hm1
  have HM2 := Lib.hid hm2
  have W1 := Lib.hid (wd_wds x.natAbs)
  have W2 := Lib.hid (wd_wds y.natAbs)
  have V1 := Lib.hid (vw_wds x.natAbs)
  have V2 := Lib.hid (vw_wds y.natAbs)
  clear hm1 hm2
  generalize decide (x < 0) = p at *
  generalize decide (y < 0) = q at *
  generalize wds x.natAbs = la at *
  generalize wds y.natAbs = lb at *
  obtain ⟨N, hsum, hN⟩ : ∃ N : Nat, (la.length : Int) + lb.length = N ∧ Hid (la.length + lb.length = N) := ⟨la.length + lb.length, by omega, rfl⟩
  have hNb : N ≤ 100000 := by have := hN.out; omega
  have hmk := mk_w64 N (by omega)
  obtain ⟨wa, hwa⟩ : ∃ wa, wa = (((w.alloc (.cells #[.bool p, .slice A1 la.length c1] 33)).alloc (.cells #[.bool q, .slice A2 lb.length c2] 33)).alloc (.cells #[.bool false, .slice none 0 0] 33)) := ⟨_, rfl⟩
  have K0 : Hid (∀ W, Grow wa W → W.heap[w.heap.size]? = some (.cells #[.bool p, .slice A1 la.length c1] 33 (0, 0))) := fun W h => by
    subst hwa
    exact blk_al w _ _ ((((Grow.refl _).al _).al _).tr h)
  have K1 : Hid (∀ W, Grow wa W → W.heap[w.heap.size + 1]? = some (.cells #[.bool q, .slice A2 lb.length c2] 33 (0, 0))) := fun W h => by
    subst hwa
    have := blk_al (w.alloc (.cells #[.bool p, .slice A1 la.length c1] 33)) _ _ (((Grow.refl _).al _).tr h)
    rwa [World.size_alloc] at this
  have K2 : Hid (∀ W, Grow wa W → W.heap[w.heap.size + 1 + 1]? = some (.cells #[.bool false, .slice none 0 0] 33 (0, 0))) := fun W h => by
    subst hwa
    have := blk_al _ _ _ h
    rwa [World.size_alloc, World.size_alloc] at this
  have GA : Hid (Grow w wa) := by
    subst hwa
    exact (((Grow.refl w).al _).al _).al _
  have GS : Hid (wa.heap.size = w.heap.size + 3) := by
    subst hwa
    show _ = _
    rw [World.size_alloc, World.size_alloc, World.size_alloc]
  go_enter Try.func61, Try.ntmps61
  go_wp2_with fail
  rw [← hwa]
  clear hwa hmk
  have hz := Lib.hid (World.ownsRow_lit (base := w.heap.size + 3) (e := 24) (size := 1) wa (madeCells #[.int .u64 0] N) N (by have := GS.out; omega) (by have := hN.out; simp only [maxLen]; omega) (by simp [size_madeCells]))
  have GZ : Hid (Grow wa (wa.alloc (.cells (madeCells #[.int .u64 0] N) 24))) := (Grow.refl wa).al _
  have hG : Hid (∃ g, wa.heap.size = g ∧ w.heap.size + 1 + 1 + 1 = g) := ⟨_, rfl, by have := GS.out; omega⟩
  obtain ⟨g, hg1, hg2⟩ := hG.out
  rw [hg1] at hz
  have hlen1 := Lib.hid hN.out
  generalize wa.alloc (.cells (madeCells #[.int .u64 0] N) 24) = wb at *
  have HGE : Hid (wa.heap.size ≤ g ∧ w.heap.size + 3 ≤ g) := by have := GS.out; exact ⟨by omega, by omega⟩
  simp only [hg2]
  clear hg1 hg2 hG
  rw [made_w64] at hz
  go_loopw [6] (fun s6 wr => ∃ (i : Nat) (ms : List Nat), s6 = .int .i64 i ∧ i ≤ la.length ∧ wr.ownsRow (w.heap.size + 3) 24 1 (.slice (some ⟨g, 0, none⟩) N N) N (W64 ms) ∧ Hid (ms.length = N) ∧ Hid (Wd ms) ∧ Hid (∀ j (h : j < ms.length), i + lb.length ≤ j → ms[j] = 0) ∧ Hid (vw ms = vw (la.take i) * vw lb) ∧ Hid (Grow wa wr)) (fun s6 _ => la.length - (intOf s6).toNat)
  case atStart => exact ⟨0, List.replicate N 0, rfl, Nat.zero_le _, hz.out, by show _ = _; simp, wd_zero N, fun j h _ => by simp, by show _ = _; simp [vw_rep, vw], GZ.out⟩
  case round =>
    obtain ⟨i, ms, rfl, hi, hown, hml, hmw, hmz, hmv, hg⟩ := hrel
    have z0 := cell_of_row _ w.heap.size 0 _ _ (0, 0) (K0.out _ (hg.out))
    have z1 := cell_of_row _ w.heap.size 1 _ _ (0, 0) (K0.out _ (hg.out))
    have y0 := cell_of_row _ (w.heap.size + 1) 0 _ _ (0, 0) (K1.out _ (hg.out))
    have y1 := cell_of_row _ (w.heap.size + 1) 1 _ _ (0, 0) (K1.out _ (hg.out))
    by_cases hlt : i < la.length
    · go_wp2_with fail
      clear z0 z1 y0 y1
      obtain ⟨b1, o1, rfl, d1⟩ := rd_at HM1.out (GA.out.tr (Grow.refl wa)) (W64_at la _ hlt)
      have XA := Lib.hid (W1.out _ (List.getElem_mem hlt))
      have TA := Lib.hid (vw_take hlt)
      have D1 := Lib.hid fun W (h : Grow wa W) => (h.cell (World.block_lt_of_cell? wa _ d1)).trans d1
      generalize la[i]'hlt = x1 at *
      clear d1
      have HOW := Lib.hid hown
      have HLT := Lib.hid hlt
      clear hown hi hlt
      go_loopw [7, 8] (fun s7 s8 wr => ∃ (k c : Nat) (ns : List Nat), s7 = .int .u64 c ∧ s8 = .int .i64 k ∧ k ≤ lb.length ∧ c ≤ 65535 ∧ wr.ownsRow (w.heap.size + 3) 24 1 (.slice (some ⟨g, 0, none⟩) N N) N (W64 ns) ∧ Hid (ns.length = N) ∧ Hid (Wd ns) ∧ Hid (∀ j (h : j < ns.length), i + lb.length ≤ j → ns[j] = 0) ∧ Hid (vw ns + 65536 ^ (i + k) * c = vw (la.take i) * vw lb + 65536 ^ i * (x1 * vw (lb.take k))) ∧ Hid (Grow wa wr)) (fun _ s8 _ => lb.length - (intOf s8).toNat)
      case atStart => exact ⟨0, 0, ms, rfl, rfl, Nat.zero_le _, by omega, HOW.out, hml.out, hmw.out, hmz.out, by show _ = _; simp [vw, hmv.out], hg.out⟩
      case round =>
        obtain ⟨k, c, ns, rfl, rfl, hk, hc, hown, hnl, hnw, hnz, hnv, hgi⟩ := hrel
        have z0 := cell_of_row _ w.heap.size 0 _ _ (0, 0) (K0.out _ (hgi.out))
        have z1 := cell_of_row _ w.heap.size 1 _ _ (0, 0) (K0.out _ (hgi.out))
        have y0 := cell_of_row _ (w.heap.size + 1) 0 _ _ (0, 0) (K1.out _ (hgi.out))
        have y1 := cell_of_row _ (w.heap.size + 1) 1 _ _ (0, 0) (K1.out _ (hgi.out))
        have fz := hown.frozenAt
        obtain ⟨j, hj1, hj2⟩ : ∃ j : Nat, (i : Int) + k = j ∧ Hid (i + k = j) := ⟨i + k, by omega, rfl⟩
        by_cases hlt2 : k < lb.length
        · have hjN : j < N := by have := hj2.out; have := HLT.out; have := hN.out; omega
          have hjn : j < ns.length := by rw [hnl.out]; exact hjN
          obtain ⟨b2, o2, rfl, d2⟩ := rd_at HM2.out (GA.out.tr hgi.out) (W64_at lb _ hlt2)
          have d1 := D1.out _ hgi.out
          have cj : wr.cell? ⟨g, j, none⟩ = some (.int .u64 (ns[j]'hjn : Nat)) := by
            have := hown.cellAt j (by simpa using hjN)
            rw [this]
            exact W64_at ns j hjn
          have VS := Lib.hid fun y => vw_set ns j y hjn
          have X1 := XA.out
          have X2 := W2.out _ (List.getElem_mem hlt2)
          have X3 := hnw.out _ (List.getElem_mem hjn)
          have TB := Lib.hid (vw_take hlt2)
          generalize lb[k]'hlt2 = x2 at *
          generalize ns[j]'hjn = x3 at *
          obtain ⟨z, hz1, hz2⟩ : ∃ z : Nat, (x1 : Int) * x2 = z ∧ Hid (x1 * x2 = z) := ⟨x1 * x2, by exact_mod_cast rfl, rfl⟩
          have hz3 : z ≤ 65535 * 65535 := by rw [← hz2.out]; exact Nat.mul_le_mul (by omega) (by omega)
          have hj0 : Hid (j < N) := hjN
          have ST := Lib.hid fun n v => ((own_grow hown ((Grow.refl _).dn n)).stored j v).1
          clear hown hjn
          go_wp2
          have hlt := HLT.out
          have hwj : IntKind.i64.wrap (j : Int) = j := IntWalk.i64_in _ (by omega)
          have hwz : IntKind.u64.wrap (z : Int) = z := IntWalk.u64_in _ (by omega)
          have hw1 : IntKind.u64.wrap ((c : Int) + x3) = (c : Int) + x3 := IntWalk.u64_in _ (by omega)
          have hw2 : IntKind.u64.wrap ((c : Int) + x3 + z) = (c : Int) + x3 + z := IntWalk.u64_in _ (by omega)
          go_quiet (fail)
          go_wp2
          go_roundw
          case rel =>
            refine ⟨k + 1, (c + x3 + z) / 65536, ns.set j ((c + x3 + z) % 65536), by go_num, by go_num, by omega, by omega, own_eq (ST.out _ _) rfl ?_, ?_, ?_, ?_, ?_, (hgi.out.dn _).set (p := ⟨g, j, none⟩) HGE.out.1 _⟩
            · rw [W64_set]
              rfl
            · show _ = _
              rw [List.length_set]; exact hnl.out
            · exact wd_set hnw.out (by omega)
            · intro j' h' hj'
              rw [List.getElem_set_ne (by have := hj2.out; omega)]
              exact hnz.out j' (by simpa using h') hj'
            · show _ = _
              have hV := VS.out ((c + x3 + z) % 65536)
              rw [← hj2.out] at hV ⊢
              rw [← Nat.add_assoc, Nat.pow_succ, mul_step hV rfl, hnv.out, TB.out, ← hz2.out]
              exact mul_next
          case measure => simp [intOf]; omega
        · obtain rfl : k = lb.length := by omega
          have hjN : j < N := by have := hj2.out; have := HLT.out; have := hN.out; omega
          have hjn : j < ns.length := by rw [hnl.out]; exact hjN
          have h0 := hnz.out j hjn (by have := hj2.out; omega)
          have cj : wr.cell? ⟨g, j, none⟩ = some (.int .u64 (ns[j]'hjn : Nat)) := by
            have := hown.cellAt j (by simpa using hjN)
            rw [this]
            exact W64_at ns j hjn
          rw [h0] at cj
          have VS := Lib.hid (vw_set0 (y := c) hjn h0)
          have ST := Lib.hid fun n v => ((own_grow hown ((Grow.refl _).dn n)).stored j v).1
          have HI := Lib.hid (show i + 1 ≤ la.length from HLT.out)
          clear hown hjn h0
          go_wp2
          go_roundw
          case rel =>
            refine ⟨i + 1, ns.set j c, by go_num, HI.out, own_eq (ST.out 0 _) rfl ?_, ?_, ?_, ?_, ?_, hgi.out.set (p := ⟨g, j, none⟩) HGE.out.1 _⟩
            · rw [W64_set]
            · show _ = _
              rw [List.length_set]; exact hnl.out
            · exact wd_set hnw.out (by omega)
            · intro j' h' hj'
              rw [List.getElem_set_ne (by have := hj2.out; omega)]
              exact hnz.out j' (by simpa using h') (by have := hj2.out; omega)
            · show _ = _
              rw [VS.out, ← hj2.out, hnv.out, TA.out, List.take_length]
              exact mul_out
          case measure => simp [intOf] <;> (have := HI.out; omega)
    · obtain rfl : i = la.length := by omega
      have HV : Hid (vw ms = x.natAbs * y.natAbs) := by
        show _ = _
        rw [hmv.out, List.take_length, V1.out, V2.out]
      have HO := Lib.hid hown
      have HML := Lib.hid (show N ≤ 100000 by have := hN.out; omega)
      clear hown
      have SZ3 : Hid (∀ b, w.heap.size + 3 ≤ b → w.heap.size ≤ b ∧ b ≠ w.heap.size + 1 + 1) := fun b hb => ⟨by omega, by omega⟩
      clear z0 z1 y0 y1
      cases p with
      | false =>
        cases q with
        | false =>
          have z0 := cell_of_row _ w.heap.size 0 _ _ (0, 0) (K0.out _ (hg.out))
          have z1 := cell_of_row _ w.heap.size 1 _ _ (0, 0) (K0.out _ (hg.out))
          have y0 := cell_of_row _ (w.heap.size + 1) 0 _ _ (0, 0) (K1.out _ (hg.out))
          have y1 := cell_of_row _ (w.heap.size + 1) 1 _ _ (0, 0) (K1.out _ (hg.out))
          go_wp2_with fail
          go_at_call 89
          refine made_any _ ms _ _ wr (by rw [hml.out]; exact Rd.own_from HO.out) hmw.out (by rw [hml.out]; exact HML.out) ?_
          intro r w5 hg5 hr
          rw [HV.out, (show sg false (x.natAbs * y.natAbs) = x * y from SG.out)] at hr
          have hb3 := K2.out w5 (hg.out.tr hg5)
          have G5 := Lib.hid (hg.out.tr hg5)
          clear hg5
          obtain ⟨hk3, m3, rfl, hm3⟩ := hr
          obtain ⟨A3, c3, rfl, g31, g32⟩ := rd_slice hm3
          have HM3 := Lib.hid hm3
          generalize hn3 : (wds ((x * y)).natAbs).length = n3 at *
          have HN3 := Lib.hid hn3
          have HK3 := Lib.hid hk3
          clear hm3 hk3 hn3
          generalize hq : decide ((x * y) < 0) = q3 at *
          have HQ := Lib.hid hq
          clear hq
          have c0 := cell_of_row _ (w.heap.size + 1 + 1) 0 _ _ (0, 0) hb3
          have f0 := frozen_of_row _ (w.heap.size + 1 + 1) 0 _ _ hb3
          have b1 := blk_set hb3 0 (.bool q3)
          have c1 := cell_of_row _ (w.heap.size + 1 + 1) 1 _ _ (0, 0) b1
          have f1 := frozen_of_row _ (w.heap.size + 1 + 1) 1 _ _ b1
          have b2 := blk_set b1 1 (.slice A3 n3 c3)
          have r0 := cell_of_row _ (w.heap.size + 1 + 1) 0 _ _ (0, 0) b2
          have r1 := cell_of_row _ (w.heap.size + 1 + 1) 1 _ _ (0, 0) b2
          simp only [List.setIfInBounds_toArray, List.set_cons_zero, List.set_cons_succ] at c0 c1 r0 r1
          clear b1 b2
          clear hb3
          go_wp2
          refine bodyPost_ret (v := .agg #[.bool q3, .slice A3 n3 c3]) (by simp [results, Try.f61, go_sem, r0, r1]) rfl (HR.out _ _ ?_ ?_)
          · exact grow_set2 (by omega) (GA.out.tr G5.out) _ _
          · refine ⟨by rw [HN3.out]; exact KB.out, _, by rw [HQ.out], ?_⟩
            rw [HN3.out]
            exact ((HM3.out.set (fun b hb => (SZ3.out b hb.1).2) _).set (fun b hb => (SZ3.out b hb.1).2) _).into fun b hb => (SZ3.out b hb.1).1
        | true =>
          have z0 := cell_of_row _ w.heap.size 0 _ _ (0, 0) (K0.out _ (hg.out))
          have z1 := cell_of_row _ w.heap.size 1 _ _ (0, 0) (K0.out _ (hg.out))
          have y0 := cell_of_row _ (w.heap.size + 1) 0 _ _ (0, 0) (K1.out _ (hg.out))
          have y1 := cell_of_row _ (w.heap.size + 1) 1 _ _ (0, 0) (K1.out _ (hg.out))
          go_wp2_with fail
          go_at_call 89
          refine made_any _ ms _ _ wr (by rw [hml.out]; exact Rd.own_from HO.out) hmw.out (by rw [hml.out]; exact HML.out) ?_
          intro r w5 hg5 hr
          rw [HV.out, (show sg true (x.natAbs * y.natAbs) = x * y from SG.out)] at hr
          have hb3 := K2.out w5 (hg.out.tr hg5)
          have G5 := Lib.hid (hg.out.tr hg5)
          clear hg5
          obtain ⟨hk3, m3, rfl, hm3⟩ := hr
          obtain ⟨A3, c3, rfl, g31, g32⟩ := rd_slice hm3
          have HM3 := Lib.hid hm3
          generalize hn3 : (wds ((x * y)).natAbs).length = n3 at *
          have HN3 := Lib.hid hn3
          have HK3 := Lib.hid hk3
          clear hm3 hk3 hn3
          generalize hq : decide ((x * y) < 0) = q3 at *
          have HQ := Lib.hid hq
          clear hq
          have c0 := cell_of_row _ (w.heap.size + 1 + 1) 0 _ _ (0, 0) hb3
          have f0 := frozen_of_row _ (w.heap.size + 1 + 1) 0 _ _ hb3
          have b1 := blk_set hb3 0 (.bool q3)
          have c1 := cell_of_row _ (w.heap.size + 1 + 1) 1 _ _ (0, 0) b1
          have f1 := frozen_of_row _ (w.heap.size + 1 + 1) 1 _ _ b1
          have b2 := blk_set b1 1 (.slice A3 n3 c3)
          have r0 := cell_of_row _ (w.heap.size + 1 + 1) 0 _ _ (0, 0) b2
          have r1 := cell_of_row _ (w.heap.size + 1 + 1) 1 _ _ (0, 0) b2
          simp only [List.setIfInBounds_toArray, List.set_cons_zero, List.set_cons_succ] at c0 c1 r0 r1
          clear b1 b2
          clear hb3
          go_wp2
          refine bodyPost_ret (v := .agg #[.bool q3, .slice A3 n3 c3]) (by simp [results, Try.f61, go_sem, r0, r1]) rfl (HR.out _ _ ?_ ?_)
          · exact grow_set2 (by omega) (GA.out.tr G5.out) _ _
          · refine ⟨by rw [HN3.out]; exact KB.out, _, by rw [HQ.out], ?_⟩
            rw [HN3.out]
            exact ((HM3.out.set (fun b hb => (SZ3.out b hb.1).2) _).set (fun b hb => (SZ3.out b hb.1).2) _).into fun b hb => (SZ3.out b hb.1).1
      | true =>
        cases q with
        | false =>
          have z0 := cell_of_row _ w.heap.size 0 _ _ (0, 0) (K0.out _ (hg.out))
          have z1 := cell_of_row _ w.heap.size 1 _ _ (0, 0) (K0.out _ (hg.out))
          have y0 := cell_of_row _ (w.heap.size + 1) 0 _ _ (0, 0) (K1.out _ (hg.out))
          have y1 := cell_of_row _ (w.heap.size + 1) 1 _ _ (0, 0) (K1.out _ (hg.out))
          go_wp2_with fail
          go_at_call 89
          refine made_any _ ms _ _ wr (by rw [hml.out]; exact Rd.own_from HO.out) hmw.out (by rw [hml.out]; exact HML.out) ?_
          intro r w5 hg5 hr
          rw [HV.out, (show sg true (x.natAbs * y.natAbs) = x * y from SG.out)] at hr
          have hb3 := K2.out w5 (hg.out.tr hg5)
          have G5 := Lib.hid (hg.out.tr hg5)
          clear hg5
          obtain ⟨hk3, m3, rfl, hm3⟩ := hr
          obtain ⟨A3, c3, rfl, g31, g32⟩ := rd_slice hm3
          have HM3 := Lib.hid hm3
          generalize hn3 : (wds ((x * y)).natAbs).length = n3 at *
          have HN3 := Lib.hid hn3
          have HK3 := Lib.hid hk3
          clear hm3 hk3 hn3
          generalize hq : decide ((x * y) < 0) = q3 at *
          have HQ := Lib.hid hq
          clear hq
          have c0 := cell_of_row _ (w.heap.size + 1 + 1) 0 _ _ (0, 0) hb3
          have f0 := frozen_of_row _ (w.heap.size + 1 + 1) 0 _ _ hb3
          have b1 := blk_set hb3 0 (.bool q3)
          have c1 := cell_of_row _ (w.heap.size + 1 + 1) 1 _ _ (0, 0) b1
          have f1 := frozen_of_row _ (w.heap.size + 1 + 1) 1 _ _ b1
          have b2 := blk_set b1 1 (.slice A3 n3 c3)
          have r0 := cell_of_row _ (w.heap.size + 1 + 1) 0 _ _ (0, 0) b2
          have r1 := cell_of_row _ (w.heap.size + 1 + 1) 1 _ _ (0, 0) b2
          simp only [List.setIfInBounds_toArray, List.set_cons_zero, List.set_cons_succ] at c0 c1 r0 r1
          clear b1 b2
          clear hb3
          go_wp2
          refine bodyPost_ret (v := .agg #[.bool q3, .slice A3 n3 c3]) (by simp [results, Try.f61, go_sem, r0, r1]) rfl (HR.out _ _ ?_ ?_)
          · exact grow_set2 (by omega) (GA.out.tr G5.out) _ _
          · refine ⟨by rw [HN3.out]; exact KB.out, _, by rw [HQ.out], ?_⟩
            rw [HN3.out]
            exact ((HM3.out.set (fun b hb => (SZ3.out b hb.1).2) _).set (fun b hb => (SZ3.out b hb.1).2) _).into fun b hb => (SZ3.out b hb.1).1
        | true =>
          have z0 := cell_of_row _ w.heap.size 0 _ _ (0, 0) (K0.out _ (hg.out))
          have z1 := cell_of_row _ w.heap.size 1 _ _ (0, 0) (K0.out _ (hg.out))
          have y0 := cell_of_row _ (w.heap.size + 1) 0 _ _ (0, 0) (K1.out _ (hg.out))
          have y1 := cell_of_row _ (w.heap.size + 1) 1 _ _ (0, 0) (K1.out _ (hg.out))
          go_wp2_with fail
          go_at_call 89
          refine made_any _ ms _ _ wr (by rw [hml.out]; exact Rd.own_from HO.out) hmw.out (by rw [hml.out]; exact HML.out) ?_
          intro r w5 hg5 hr
          rw [HV.out, (show sg false (x.natAbs * y.natAbs) = x * y from SG.out)] at hr
          have hb3 := K2.out w5 (hg.out.tr hg5)
          have G5 := Lib.hid (hg.out.tr hg5)
          clear hg5
          obtain ⟨hk3, m3, rfl, hm3⟩ := hr
          obtain ⟨A3, c3, rfl, g31, g32⟩ := rd_slice hm3
          have HM3 := Lib.hid hm3
          generalize hn3 : (wds ((x * y)).natAbs).length = n3 at *
          have HN3 := Lib.hid hn3
          have HK3 := Lib.hid hk3
          clear hm3 hk3 hn3
          generalize hq : decide ((x * y) < 0) = q3 at *
          have HQ := Lib.hid hq
          clear hq
          have c0 := cell_of_row _ (w.heap.size + 1 + 1) 0 _ _ (0, 0) hb3
          have f0 := frozen_of_row _ (w.heap.size + 1 + 1) 0 _ _ hb3
          have b1 := blk_set hb3 0 (.bool q3)
          have c1 := cell_of_row _ (w.heap.size + 1 + 1) 1 _ _ (0, 0) b1
          have f1 := frozen_of_row _ (w.heap.size + 1 + 1) 1 _ _ b1
          have b2 := blk_set b1 1 (.slice A3 n3 c3)
          have r0 := cell_of_row _ (w.heap.size + 1 + 1) 0 _ _ (0, 0) b2
          have r1 := cell_of_row _ (w.heap.size + 1 + 1) 1 _ _ (0, 0) b2
          simp only [List.setIfInBounds_toArray, List.set_cons_zero, List.set_cons_succ] at c0 c1 r0 r1
          clear b1 b2
          clear hb3
          go_wp2
          refine bodyPost_ret (v := .agg #[.bool q3, .slice A3 n3 c3]) (by simp [results, Try.f61, go_sem, r0, r1]) rfl (HR.out _ _ ?_ ?_)
          · exact grow_set2 (by omega) (GA.out.tr G5.out) _ _
          · refine ⟨by rw [HN3.out]; exact KB.out, _, by rw [HQ.out], ?_⟩
            rw [HN3.out]
            exact ((HM3.out.set (fun b hb => (SZ3.out b hb.1).2) _).set (fun b hb => (SZ3.out b hb.1).2) _).into fun b hb => (SZ3.out b hb.1).1
end Go.Proofs.Ytjcgkhcbdbbdkaa
