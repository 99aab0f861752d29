/-
  RingWinds, first part: places.
-/
import Derived.Test.YtjcgkhcbdbbdkaaChecked
import Derived.Test.YtjcgkhcbdbbdkaaRR4
namespace Go.Proofs.Ytjcgkhcbdbbdkaa
open Go.RowKit B

set_option maxRecDepth 100000 in
set_option maxHeartbeats 8000000 in
theorem places_any (l : List Spot) (v : Value) (S : Nat → Prop) (w : World) (hb : Rd w S 6 v l.length (Spots l)) (hl : l.length ≤ 2000) (hok : ∀ s ∈ l, s.ok ∧ s.rt) {R : Ending → World → Prop}
    (hR : ∀ (r : Value) (m : List PV) (w' : World), w'.ownsRow w.heap.size 37 8 r m.length (PVs m) → m.map PV.q = l.map Spot.pq → (∀ p ∈ m, p.rd w' (fun _ => True) 9) → Grow w w' → R (.returned r) w') :
    Calls Try.prog 28 #[v] w R := by
  have HR := Lib.hid hR
  clear hR
  have hb := hb.lt (by decide)
  obtain ⟨_, A, c, rfl, k1, k2, k3, k4⟩ := hb
  unfold maxLen at k2
  have HOK := Lib.hid hok
  clear hok k3
  go_enter Try.func28, Try.ntmps28
  go_wp2
  go_loopw [4, 3] (fun i p wr => ∃ (k : Nat) (m : List PV), k ≤ l.length ∧ i = .int .i64 k ∧ Hid (m.map PV.q = (l.take k).map Spot.pq) ∧ Hid (HSt w p (.slice none 0 0) m [] 9 wr)) (fun i _ _ => l.length - (intOf i).toNat)
  case atStart => exact ⟨0, [], Nat.zero_le _, rfl, rfl, ⟨Grow.refl _, World.ownsRow_nil _ _ _ _, World.ownsRow_nil _ _ _ _, fun k hk => by simp [Value.ownBlock] at hk, fun p hp => by simp at hp, fun p hp => by simp at hp⟩⟩
  case round =>
    obtain ⟨k, m, hk, rfl, hm, hst⟩ := hrel
    obtain ⟨ap, cp, rfl⟩ := own_slice hst.out.oo
    by_cases hlt : k < l.length
    · obtain ⟨bl, o, rfl, hS, hc⟩ := k4 (by omega)
      have e0 := fun W (h : Grow w W) => flat_cells Spot.cells_len h hS hc hlt
      have ML : Hid (m.length ≤ 2000) := by show _ ≤ _; have := congrArg List.length hm.out; rw [List.length_map, List.length_map, List.length_take] at this; omega
      have MS : Hid (∀ r : PV, r.q = (l[k]'hlt).pq → (m ++ [r]).map PV.q = (l.take (k + 1)).map Spot.pq) := fun r hr => by rw [List.map_append, hm.out, List.take_succ_eq_append_getElem hlt, List.map_append, List.map_cons, List.map_nil, hr]; rfl
      have PO := HOK.out _ (List.getElem_mem hlt)
      have RX := Lib.hid fun W (R : Ending → World → Prop) hR => rat_q (l[k]'hlt).x W PO.1.1 (by have := (Fr.right_iff PO.2.1).2; omega) (R := R) hR
      have RY := Lib.hid fun W (R : Ending → World → Prop) hR => rat_q (l[k]'hlt).y W PO.1.2 (by have := (Fr.right_iff PO.2.2).2; omega) (R := R) hR
      have E0 : Hid (∀ W, Grow w W → W.cell? ⟨bl, o + k * 6, none⟩ = some (.int .i64 (l[k]'hlt).x.q) ∧ W.cell? ⟨bl, o + k * 6 + 1, none⟩ = some (.int .u64 ((l[k]'hlt).x.r : Nat)) ∧ W.cell? ⟨bl, o + k * 6 + 2, none⟩ = some (.int .u64 ((l[k]'hlt).x.d : Nat)) ∧ W.cell? ⟨bl, o + k * 6 + 3, none⟩ = some (.int .i64 (l[k]'hlt).y.q) ∧ W.cell? ⟨bl, o + k * 6 + 4, none⟩ = some (.int .u64 ((l[k]'hlt).y.r : Nat)) ∧ W.cell? ⟨bl, o + k * 6 + 5, none⟩ = some (.int .u64 ((l[k]'hlt).y.d : Nat))) := fun W h => ⟨e0 W h 0 _ rfl, e0 W h 1 _ rfl, e0 W h 2 _ rfl, e0 W h 3 _ rfl, e0 W h 4 _ rfl, e0 W h 5 _ rfl⟩
      have QE : Hid ((l[k]'hlt).pq = ⟨(l[k]'hlt).x.val, (l[k]'hlt).y.val⟩) := rfl
      have T0 : Hid (¬ l = []) := by rintro rfl; simp at hlt
      have ST := Lib.hid hst.out
      have K2 : Hid (l.length < 2 ^ 62 ∧ k < l.length) := ⟨by omega, hlt⟩
      clear e0 hc k4 PO hm hst
      generalize (l[k]'hlt) = p at *
      obtain ⟨⟨q1, r1, d1⟩, ⟨q2, r2, d2⟩⟩ := p
      unfold Fr.cells at RX RY
      dsimp only at E0 RX RY QE
      go_upto_region 5 with fail
      have GD := Lib.hid ((Grow.refl wr).dr)
      have ST := Lib.hid (ST.out.tr GD.out)
      clear GD
      refine wp_region_lexT (Grow wr.drew) ((Grow.refl _)) 15 [0, 1, 2, 3, 4, 5, 7, 8, 9, 10, 11, 6, 12, 13, 14] (by kernel_rfl) (by kernel_rfl) (by intro c a d v w h; cases d <;> exact h) ?_
      generalize wr.drew = wb at *
      iterate 11 (apply lext_take; exact rfl; exact rfl; (intro W hW; obtain ⟨z0, z1, z2, z3, z4, z5⟩ := E0.out W (ST.out.gr.tr hW); have t0 := T0.out; (try clear hW); go_simp; with_reducible rfl); try simp only [Act.put, List.setIfInBounds_toArray, List.set_cons_zero, List.set_cons_succ])
      apply lext_turn; exact rfl; exact rfl; exact rfl; intro K hK; go_simp; go_at_call 25; refine RX.out _ _ ?_; intro rx w1 hg1 hq1 hr1
      have G1 := Lib.hid hg1
      have VX := Lib.hid (hr1.into (T := OffB (.slice ap m.length cp) (.slice none 0 0)) fun b hb => ST.out.off hb)
      have QX := Lib.hid hq1
      obtain ⟨⟨a1, a2, a3, a4⟩, ⟨a5, a6, a7, a8⟩, aq⟩ := rx
      unfold RV.cells
      dsimp only at QX ⊢
      refine hK.out _ _ G1.out ?_
      clear hK hg1 hq1 hr1 RX
      try simp only [Act.put, List.setIfInBounds_toArray, List.set_cons_zero, List.set_cons_succ]
      apply lext_turn; exact rfl; exact rfl; exact rfl; intro K hK; go_simp; go_at_call 25; refine RY.out _ _ ?_; intro ry w2 hg2 hq2 hr2
      have G2 := Lib.hid (G1.out.tr hg2)
      have VX := Lib.hid (VX.out.gr hg2)
      have VY := Lib.hid (hr2.into (T := OffB (.slice ap m.length cp) (.slice none 0 0)) fun b hb => ST.out.off (by have := G1.out.size; omega))
      have QY := Lib.hid hq2
      obtain ⟨⟨b1, b2, b3, b4⟩, ⟨b5, b6, b7, b8⟩, bq⟩ := ry
      unfold RV.cells
      dsimp only at QY ⊢
      refine hK.out _ _ G2.out ?_
      clear hK hg2 hq2 hr2 RY E0 G1
      try simp only [Act.put, List.setIfInBounds_toArray, List.set_cons_zero, List.set_cons_succ]
      iterate 1 (apply lext_take; exact rfl; exact rfl; (intro W hW; (try clear hW); go_simp; with_reducible rfl); try simp only [Act.put, List.setIfInBounds_toArray, List.set_cons_zero, List.set_cons_succ])
      apply lext_turn; exact rfl; exact rfl; exact rfl; intro K hK; go_simp; refine hK.out _ _ ((G2.out.al _)) ?_; clear hK; try simp only [Act.put, List.setIfInBounds_toArray, List.set_cons_zero, List.set_cons_succ]
      refine lext_nil ?_
      simp only [List.drop_succ_cons, List.drop_zero]
      have RL9 := Lib.hid (Rd.lit w2 #[.bool a1, .slice a2 a3 a4, .bool a5, .slice a6 a7 a8, .bool b1, .slice b2 b3 b4, .bool b5, .slice b6 b7 b8] 37 1 (by decide) rfl : Rd _ _ 8 _ 1 [.bool a1, .slice a2 a3 a4, .bool a5, .slice a6 a7 a8, .bool b1, .slice b2 b3 b4, .bool b5, .slice b6 b7 b8])
      have GL : Grow w2 (w2.alloc (.cells #[.bool a1, .slice a2 a3 a4, .bool a5, .slice a6 a7 a8, .bool b1, .slice b2 b3 b4, .bool b5, .slice b6 b7 b8] 37)) := (Grow.refl _).al _
      have ST := Lib.hid ((ST.out.tr G2.out).tr GL)
      have VX := Lib.hid (VX.out.gr GL)
      have VY := Lib.hid (VY.out.gr GL)
      have MQ := Lib.hid (MS.out (⟨(⟨⟨a1, a2, a3, a4⟩, ⟨a5, a6, a7, a8⟩, aq⟩ : RV), (⟨⟨b1, b2, b3, b4⟩, ⟨b5, b6, b7, b8⟩, bq⟩ : RV)⟩ : PV) (by rw [QE.out, ← QX.out, ← QY.out]; rfl))
      clear MS QE QX QY GL G2
      generalize w2.alloc (.cells #[.bool a1, .slice a2 a3 a4, .bool a5, .slice a6 a7 a8, .bool b1, .slice b2 b3 b4, .bool b5, .slice b6 b7 b8] 37) = w4 at *
      go_upto_region 4 with (at_builtin; refine wpList_app rfl _ _ rfl el_pl ST.out.oo rfl RL9.out rfl (by simp [Value.oneCell']) (by have := ML.out; omega) ST.out.gr.size ?_; intro v9 w9 hO9 hgr9 hb9)
      have STF := Lib.hid (ST.out.pout (out' := m ++ [(⟨(⟨⟨a1, a2, a3, a4⟩, ⟨a5, a6, a7, a8⟩, aq⟩ : RV), (⟨⟨b1, b2, b3, b4⟩, ⟨b5, b6, b7, b8⟩, bq⟩ : RV)⟩ : PV)]) hgr9 (own_eq hO9 (by simp) (show PVs m ++ _ = _ by rw [PVs_app]; rfl)) (hb9.elim .inl fun h => .inr ⟨_, h, Nat.le_refl _⟩) (fun y hy => by
        rcases List.mem_append.1 hy with h | h
        · exact ST.out.vo y h
        · rw [List.mem_singleton.1 h]; exact ⟨VX.out, VY.out⟩))
      clear hO9 hgr9 hb9 ST VX VY RL9
      go_wp2
      go_roundw
      case rel => exact ⟨k + 1, m ++ [_], by omega, by go_num, MQ.out, STF.out⟩
      case measure => simp [intOf]; omega
    · obtain rfl : k = l.length := by omega
      have M0 : Hid (m.map PV.q = l.map Spot.pq) := by show _ = _; rw [hm.out, List.take_length]
      have ST := Lib.hid hst.out
      clear hm hst k4
      go_wp2
      exact HR.out _ m _ ST.out.oo M0.out (fun p hp => (ST.out.vo p hp).into fun _ _ => trivial) ST.out.gr
end Go.Proofs.Ytjcgkhcbdbbdkaa
