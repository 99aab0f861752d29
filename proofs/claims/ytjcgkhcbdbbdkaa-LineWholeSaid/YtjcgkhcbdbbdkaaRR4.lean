/-
  The reference's rings, fourth part: Clip.
-/
import Derived.Test.YtjcgkhcbdbbdkaaChecked
import Derived.Test.YtjcgkhcbdbbdkaaRR3
namespace Go.Proofs.Ytjcgkhcbdbbdkaa
open Go.RowKit B

theorem halfQ_len (c : Int) (up ab : Bool) (l : List PtQ) : (halfQ c up ab l).length ≤ 2 * l.length := by
  have key : ∀ k, (cycTo (half1Q c up ab) l k).length ≤ 2 * k := by
    intro k
    induction k with
    | zero => simp [cycTo]
    | succ k ih =>
      unfold cycTo at ih ⊢
      rw [List.range_succ, List.flatMap_append, List.length_append]
      have h2 : ([k].flatMap (cycAt (half1Q c up ab) l)).length ≤ 2 := by
        simp only [List.flatMap_cons, List.flatMap_nil, List.append_nil]
        unfold cycAt
        split
        · exact half1Q_len _ _ _ _ _
        · simp
      omega
  exact key _
def clip25Q (l : List Pt) (lo hi : Int) : List PtQ := halfQ hi true false (halfQ lo true true (halfQ hi false false (halfQ lo false true (l.map Pt.pq))))

set_option maxRecDepth 100000 in
set_option maxHeartbeats 8000000 in
theorem rclip25_any (l : List Pt) (lo hi : Int) (v : Value) (S : Nat → Prop) (w : World) (hb : Rd w S 2 v l.length (Pts l)) (hl : l.length ≤ 100) (hok : ∀ p ∈ l, p.ok) (hlo : I64 lo) (hhi : I64 hi) {R : Ending → World → Prop}
    (hR : ∀ (r : Value) (m : List PV) (w' : World), w'.ownsRow w.heap.size 37 8 r m.length (PVs m) → m.map PV.q = clip25Q l lo hi → (∀ p ∈ m, p.rd w' (fun _ => True) 7256) → Grow w w' → R (.returned r) w') :
    Calls Try.prog 22 #[v, .int .i64 lo, .int .i64 hi] w R := by
  have HR := Lib.hid hR
  clear hR
  have hb := hb.lt (by decide)
  obtain ⟨_, A, c, rfl, k1, k2, k3, k4⟩ := hb
  unfold maxLen at k2
  have HOK := Lib.hid hok
  have HI := Lib.hid (And.intro hlo hhi)
  clear hok hlo hhi k3
  go_enter Try.func22, Try.ntmps22
  go_wp2
  go_loopw [8, 7] (fun i p wr => ∃ (k : Nat) (m : List PV), k ≤ l.length ∧ i = .int .i64 k ∧ Hid (m.map PV.q = (l.take k).map Pt.pq) ∧ Hid (HSt w p (.slice none 0 0) m [] 4 wr)) (fun i _ _ => l.length - (intOf i).toNat)
  case atStart => exact ⟨0, [], Nat.zero_le _, rfl, rfl, ⟨Grow.refl _, World.ownsRow_nil _ _ _ _, World.ownsRow_nil _ _ _ _, fun k hk => by simp [Value.ownBlock] at hk, fun p hp => by simp at hp, fun p hp => by simp at hp⟩⟩
  case round =>
    obtain ⟨k, m, hk, rfl, hm, hst⟩ := hrel
    obtain ⟨ap, cp, rfl⟩ := own_slice hst.out.oo
    by_cases hlt : k < l.length
    · obtain ⟨bl, o, rfl, hS, hc⟩ := k4 (by omega)
      have e0 := flat_cells Pt.cells_len hst.out.gr hS hc hlt
      have ML : Hid (m.length ≤ 100) := by show _ ≤ _; have := congrArg List.length hm.out; rw [List.length_map, List.length_map, List.length_take] at this; omega
      have MS : Hid (∀ r : PV, r.q = (l[k]'hlt).pq → (m ++ [r]).map PV.q = (l.take (k + 1)).map Pt.pq) := fun r hr => by rw [List.map_append, hm.out, List.take_succ_eq_append_getElem hlt, List.map_append, List.map_cons, List.map_nil, hr]; rfl
      have PO := HOK.out _ (List.getElem_mem hlt)
      have AT := Lib.hid fun W (R : Ending → World → Prop) hR => at24_any (l[k]'hlt) W PO (R := R) hR
      have x0 := e0 0 _ rfl
      have x1 := e0 1 _ rfl
      simp only [Nat.add_zero] at x0
      have ST := Lib.hid hst.out
      clear e0 hc k4 PO hm hst
      generalize (l[k]'hlt) = p at *
      unfold Pt.cells at AT
      go_wp2_with fail
      refine AT.out _ _ ?_
      intro r w1 hg1 hq hr
      have lr : r.cells.length = 8 := rfl
      have RX := Lib.hid (hr.into (T := OffB _ _) fun b hb => ST.out.off hb)
      have ST := Lib.hid (ST.out.tr hg1)
      have MQ := Lib.hid (MS.out r hq)
      clear hg1 hq hr x0 x1 AT MS
      go_upto_region 4 with (at_builtin; refine wpList_newAt rfl _ _ rfl el_pl (own_grow ST.out.oo (Grow.refl _)) rfl 1 _ rfl _ rfl (by decide) rfl (by simp [PV.cells, Value.oneCell']) (by have := ML.out; omega) ST.out.gr ⟨Nat.le_refl _, ST.out.gr.size⟩ ?_; intro v9 w9 hO9 hg9 hgr9 hb9)
      simp only [fold_cells] at hO9
      have STF := Lib.hid (ST.out.pout (out' := m ++ [r]) hgr9 (own_eq hO9 (by simp) (by simp [PVs])) (hb9.elim .inl fun h => .inr ⟨_, h, Nat.le_succ _⟩) (fun y hy => by
        rcases List.mem_append.1 hy with h | h
        · exact ST.out.vo y h
        · rw [List.mem_singleton.1 h]; exact RX.out))
      clear hO9 hg9 hgr9 hb9 ST RX
      go_wp2
      go_roundw
      case rel => exact ⟨k + 1, m ++ [r], by omega, by go_num, MQ.out, STF.out⟩
      case measure => simp [intOf]; omega
    · obtain rfl : k = l.length := by omega
      have M0 : Hid (m.map PV.q = l.map Pt.pq) := by show _ = _; rw [hm.out, List.take_length]
      have L0 : Hid (m.length ≤ 100) := by show _ ≤ _; have := congrArg List.length M0.out; rw [List.length_map, List.length_map] at this; omega
      have ST := Lib.hid hst.out
      clear hm hst k4
      go_wp2_with fail
      refine half_any m lo false true 4 _ _ _ _ (Rd.own ST.out.oo) (by have := L0.out; omega) ST.out.vo (by omega) HI.out.1 ?_
      intro r1 m1 w1 hO1 hq1 hv1 hg1
      have L1 : Hid (m1.length ≤ 200) := by show _ ≤ _; have := congrArg List.length hq1; have := halfQ_len lo false true (m.map PV.q); have := L0.out; simp only [List.length_map] at *; omega
      have G1 := Lib.hid (ST.out.gr.tr hg1)
      have O1 := Lib.hid hO1
      have Q1 := Lib.hid hq1
      have V1 := Lib.hid hv1
      clear hO1 hq1 hv1 hg1 ST
      go_wp2_with fail
      refine half_any m1 hi false false 32 _ _ _ _ (Rd.own O1.out) (by have := L1.out; omega) V1.out (by omega) HI.out.2 ?_
      intro r2 m2 w2 hO2 hq2 hv2 hg2
      have L2 : Hid (m2.length ≤ 400) := by show _ ≤ _; have := congrArg List.length hq2; have := halfQ_len hi false false (m1.map PV.q); have := L1.out; simp only [List.length_map] at *; omega
      have G2 := Lib.hid (G1.out.tr hg2)
      have O2 := Lib.hid hO2
      have Q2 := Lib.hid hq2
      have V2 := Lib.hid hv2
      clear hO2 hq2 hv2 hg2 O1 V1
      go_wp2_with fail
      refine half_any m2 lo true true 200 _ _ _ _ (Rd.own O2.out) (by have := L2.out; omega) V2.out (by omega) HI.out.1 ?_
      intro r3 m3 w3 hO3 hq3 hv3 hg3
      have L3 : Hid (m3.length ≤ 800) := by show _ ≤ _; have := congrArg List.length hq3; have := halfQ_len lo true true (m2.map PV.q); have := L2.out; simp only [List.length_map] at *; omega
      have G3 := Lib.hid (G2.out.tr hg3)
      have O3 := Lib.hid hO3
      have Q3 := Lib.hid hq3
      have V3 := Lib.hid hv3
      clear hO3 hq3 hv3 hg3 O2 V2
      go_wp2_with fail
      refine half_any m3 hi true false 1208 _ _ _ _ (Rd.own O3.out) (by have := L3.out; omega) V3.out (by omega) HI.out.2 ?_
      intro r4 m4 w4 hO4 hq4 hv4 hg4
      have G4 := Lib.hid (G3.out.tr hg4)
      have O4 := Lib.hid (own_base hO4 G3.out.size)
      have Q4 : Hid (m4.map PV.q = clip25Q l lo hi) := by show _ = _; unfold clip25Q; rw [hq4, Q3.out, Q2.out, Q1.out, M0.out]
      have V4 := Lib.hid hv4
      clear hO4 hq4 hv4 hg4
      go_wp2
      exact HR.out _ m4 _ O4.out Q4.out V4.out G4.out
end Go.Proofs.Ytjcgkhcbdbbdkaa
