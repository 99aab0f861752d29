/-
  The reference's lines, fifth part: Same, put, Is, IsAll.
-/
import Derived.Test.YtjcgkhcbdbbdkaaChecked
import Derived.Test.YtjcgkhcbdbbdkaaRL3
import Derived.Test.YtjcgkhcbdbbdkaaLCl
namespace Go.Proofs.Ytjcgkhcbdbbdkaa
open Go.RowKit Go.Lib B

def PVs (l : List PV) : List Value := l.flatMap PV.cells
theorem PVs_app (l m : List PV) : PVs (l ++ m) = PVs l ++ PVs m := List.flatMap_append
theorem PVs_len (l : List PV) : (PVs l).length = l.length * 8 := flat_len _ _ PV.cells_len l
theorem el_pl : Elem Try.prog 52 37 (.agg #[.bool false, .slice none 0 0, .bool false, .slice none 0 0, .bool false, .slice none 0 0, .bool false, .slice none 0 0]) 8 128 := ⟨by kernel_rfl, by kernel_rfl, rfl, by decide, by decide⟩
def putP (l : List PV) (s : PV) : List PV := if (l.getLast?.any fun x => sameQ x.q s.q) = true then l else l ++ [s]
theorem putP_len (l : List PV) (s : PV) : (putP l s).length ≤ l.length + 1 := by unfold putP; split <;> simp
theorem cmpR_eqb (a b : Rat) : (cmpR a b == 0) = decide (a = b) := by
  rw [Bool.eq_iff_iff, beq_iff_eq, cmpR_eq, decide_eq_true_eq]

set_option maxRecDepth 100000 in
set_option maxHeartbeats 4000000 in
theorem same_q (a b : PV) (k1 k2 : Nat) (S T : Nat → Prop) (w : World) (ha : a.rd w S k1) (hb : b.rd w T k2) (h1 : k1 ≤ 10000) (h2 : k2 ≤ 10000) {R : Ending → World → Prop}
    (hR : ∀ w', Grow w w' → R (.returned (.bool (sameQ a.q b.q))) w') :
    Calls Try.prog 96 #[.agg a.cells.toArray, .agg b.cells.toArray] w R := by
  have HR1 : ∀ c, sameQ a.q b.q = c → ∀ w', Grow w w' → R (.returned (.bool c)) w' := by rintro c rfl; exact hR
  have HR := Lib.hid HR1
  clear hR HR1
  have OX := Lib.hid fun W (hg : Grow w W) (R : Ending → World → Prop) hR => order_q a.x b.x k1 k2 S T W (ha.1.gr hg) (hb.1.gr hg) h1 h2 (R := R) hR
  have OY := Lib.hid fun W (hg : Grow w W) (R : Ending → World → Prop) hR => order_q a.y b.y k1 k2 S T W (ha.2.gr hg) (hb.2.gr hg) h1 h2 (R := R) hR
  obtain ⟨m1, hm1⟩ : ∃ m, cmpR a.x.q b.x.q = m := ⟨_, rfl⟩
  obtain ⟨m2, hm2⟩ : ∃ m, cmpR a.y.q b.y.q = m := ⟨_, rfl⟩
  have EV : Hid (sameQ a.q b.q = ((m1 == 0) && (m2 == 0))) := by
    show _ = _
    unfold sameQ PV.q
    dsimp only
    rw [← cmpR_eqb, ← cmpR_eqb, hm1, hm2]
  rw [hm1] at OX
  rw [hm2] at OY
  clear ha hb h1 h2 hm1 hm2
  obtain ⟨⟨⟨a1, a2, a3, a4⟩, ⟨a5, a6, a7, a8⟩, aq⟩, ⟨⟨b1, b2, b3, b4⟩, ⟨b5, b6, b7, b8⟩, bq⟩⟩ := a
  obtain ⟨⟨⟨c1, c2, c3, c4⟩, ⟨c5, c6, c7, c8⟩, cq⟩, ⟨⟨d1, d2, d3, d4⟩, ⟨d5, d6, d7, d8⟩, dq⟩⟩ := b
  unfold PV.cells RV.cells at *
  dsimp only at OX OY ⊢
  obtain ⟨wa, hwa⟩ : ∃ wa, wa = (w.alloc (.cells #[.bool a1, .slice a2 a3 a4, .bool a5, .slice a6 a7 a8, .bool b1, .slice b2 b3 b4, .bool b5, .slice b6 b7 b8] 37)).alloc (.cells #[.bool c1, .slice c2 c3 c4, .bool c5, .slice c6 c7 c8, .bool d1, .slice d2 d3 d4, .bool d5, .slice d6 d7 d8] 37) := ⟨_, rfl⟩
  have GA : Hid (Grow w wa) := by subst hwa; exact ((Grow.refl w).al _).al _
  have FA : Hid (wa.heap[w.heap.size]? = some (.cells #[.bool a1, .slice a2 a3 a4, .bool a5, .slice a6 a7 a8, .bool b1, .slice b2 b3 b4, .bool b5, .slice b6 b7 b8] 37 (0, 0))) := by
    subst hwa
    exact blk_al w _ _ ((Grow.refl _).al _)
  have FB : Hid (wa.heap[w.heap.size + 1]? = some (.cells #[.bool c1, .slice c2 c3 c4, .bool c5, .slice c6 c7 c8, .bool d1, .slice d2 d3 d4, .bool d5, .slice d6 d7 d8] 37 (0, 0))) := by
    subst hwa
    have := blk_al (w.alloc (.cells #[.bool a1, .slice a2 a3 a4, .bool a5, .slice a6 a7 a8, .bool b1, .slice b2 b3 b4, .bool b5, .slice b6 b7 b8] 37)) #[.bool c1, .slice c2 c3 c4, .bool c5, .slice c6 c7 c8, .bool d1, .slice d2 d3 d4, .bool d5, .slice d6 d7 d8] 37 (Grow.refl _)
    rwa [World.size_alloc] at this
  obtain ⟨c1, hc1⟩ : ∃ c, (m1 == 0) = c := ⟨_, rfl⟩
  obtain ⟨c2, hc2⟩ : ∃ c, (m2 == 0) = c := ⟨_, rfl⟩
  rw [hc1, hc2] at EV
  have z0 := cell_of_row _ w.heap.size 0 _ _ (0, 0) FA.out
  have y0 := cell_of_row _ (w.heap.size + 1) 0 _ _ (0, 0) FB.out
  have z1 := cell_of_row _ w.heap.size 1 _ _ (0, 0) FA.out
  have y1 := cell_of_row _ (w.heap.size + 1) 1 _ _ (0, 0) FB.out
  have z2 := cell_of_row _ w.heap.size 2 _ _ (0, 0) FA.out
  have y2 := cell_of_row _ (w.heap.size + 1) 2 _ _ (0, 0) FB.out
  have z3 := cell_of_row _ w.heap.size 3 _ _ (0, 0) FA.out
  have y3 := cell_of_row _ (w.heap.size + 1) 3 _ _ (0, 0) FB.out
  go_enter Try.func96, Try.ntmps96
  go_wp2_with fail
  rw [← hwa]
  clear hwa
  go_wp2_with fail
  go_at_call 29
  refine OX.out _ GA.out _ ?_
  intro w1 hg1
  have FA := Lib.hid (grow_blk hg1 FA.out)
  have FB := Lib.hid (grow_blk hg1 FB.out)
  have GA := Lib.hid (GA.out.tr hg1)
  clear hg1 z0 z1 z2 z3 y0 y1 y2 y3 OX
  cases c1 with
  | false =>
    go_wp2
    exact HR.out _ EV.out _ GA.out
  | true =>
    have z4 := cell_of_row _ w.heap.size 4 _ _ (0, 0) FA.out
    have y4 := cell_of_row _ (w.heap.size + 1) 4 _ _ (0, 0) FB.out
    have z5 := cell_of_row _ w.heap.size 5 _ _ (0, 0) FA.out
    have y5 := cell_of_row _ (w.heap.size + 1) 5 _ _ (0, 0) FB.out
    have z6 := cell_of_row _ w.heap.size 6 _ _ (0, 0) FA.out
    have y6 := cell_of_row _ (w.heap.size + 1) 6 _ _ (0, 0) FB.out
    have z7 := cell_of_row _ w.heap.size 7 _ _ (0, 0) FA.out
    have y7 := cell_of_row _ (w.heap.size + 1) 7 _ _ (0, 0) FB.out
    go_wp2_with fail
    go_at_call 29
    refine OY.out _ GA.out _ ?_
    intro w2 hg2
    have GA := Lib.hid (GA.out.tr hg2)
    clear hg2
    go_wp2
    exact HR.out _ EV.out _ GA.out
set_option maxRecDepth 100000 in
set_option maxHeartbeats 8000000 in
theorem rput_any (l : List PV) (s : PV) (k : Nat) (S : Nat → Prop) (v : Value) (w0 w : World) (hg0 : Grow w0 w) (hown : w.ownsRow w0.heap.size 37 8 v l.length (PVs l)) (hl : l.length ≤ 100000) (hs : s.rd w S k) (hv : ∀ x ∈ l, x.rd w S k) (hk : k ≤ 10000) {R : Ending → World → Prop}
    (hR : ∀ v' w', w'.ownsRow w0.heap.size 37 8 v' (putP l s).length (PVs (putP l s)) → w.grownBy w' v.ownBlock → Fresh w v v' → R (.returned v') w') :
    Calls Try.prog 69 #[v, .agg s.cells.toArray] w R := by
  have HR1 : ∀ m, putP l s = m → ∀ v' w', w'.ownsRow w0.heap.size 37 8 v' m.length (PVs m) → w.grownBy w' v.ownBlock → Fresh w v v' → R (.returned v') w' := by rintro m rfl; exact hR
  have HR := Lib.hid HR1
  clear hR HR1
  have HO0 := Lib.hid hown
  obtain ⟨A, c, rfl⟩ := own_slice hown
  have HD := Rd.own_lt hown
  obtain ⟨_, A', c', hv', k1, k2, k3, k4⟩ := HD
  injection hv' with e1 e2 e3
  clear e2
  subst e1 e3
  unfold maxLen at k2
  clear hown k3
  have PS : Hid (putP l s = if (l.getLast?.any fun x => sameQ x.q s.q) = true then l else l ++ [s]) := rfl
  have SC : Hid (PVs (l ++ [s]) = PVs l ++ s.cells) := by show _ = _; rw [PVs_app]; simp [PVs]
  have G1 : Hid (Grow w (w.alloc (.cells s.cells.toArray 37))) := (Grow.refl w).al _
  have G0 := Lib.hid (hg0.al (.cells s.cells.toArray 37))
  have BS := Lib.hid (BoxH.laid s.cells.toArray 37 (Grow.refl w))
  have HO := Lib.hid (own_grow HO0.out G1.out)
  have HS := Lib.hid hs
  have HV := Lib.hid hv
  have HK := Lib.hid hk
  clear hg0 hs hv hk
  by_cases h0 : l.length = 0
  · have t1 : IntKind.i64.wrap ((l.length : Int) - 1) = -1 := by rw [IntWalk.i64_in _ (by omega)]; omega
    have PE : Hid (putP l s = l ++ [s]) := by
      have : l = [] := List.eq_nil_of_length_eq_zero h0
      subst this
      show putP [] s = [] ++ [s]
      rfl
    have t2 : l = [] := List.eq_nil_of_length_eq_zero h0
    obtain ⟨⟨⟨a1, a2, a3, a4⟩, ⟨a5, a6, a7, a8⟩, aq⟩, ⟨⟨b1, b2, b3, b4⟩, ⟨b5, b6, b7, b8⟩, bq⟩⟩ := s
    unfold PV.cells at *
    dsimp only at *
    clear k4 t2 t1
    go_enter Try.func69, Try.ntmps69
    go_wp2_with fail
    generalize w.alloc (.cells #[.bool a1, .slice a2 a3 a4, .bool a5, .slice a6 a7 a8, .bool b1, .slice b2 b3 b4, .bool b5, .slice b6 b7 b8] 37) = w1 at *
    generalize w.heap.size = bb at *
    refine wp_region_lexT (Grow w1) ((Grow.refl w1).dr) 11 [0, 1, 2, 3, 4, 5, 6, 7, 8, 9, 10] (by kernel_rfl) (by kernel_rfl) (by intro c a d v w h; cases d <;> exact h) ?_
    iterate 4 (apply lext_take; exact rfl; exact rfl; (intro W hW; (try clear hW); go_simp; with_reducible rfl); try simp only [Act.put, List.setIfInBounds_toArray, List.set_cons_zero, List.set_cons_succ])
    iterate 7 (apply lext_skip; exact rfl; exact rfl; try simp only [Act.put, List.setIfInBounds_toArray, List.set_cons_zero, List.set_cons_succ])
    refine lext_nil ?_
    simp only [List.drop_succ_cons, List.drop_zero]
    have HO := Lib.hid (own_grow HO.out (Grow.refl _).dr)
    have BS := Lib.hid (BS.out.tr (Grow.refl _).dr)
    have G0 := Lib.hid (G0.out.dr)
    have G1 := Lib.hid (G1.out.dr)
    have y0 := BS.out.cell 0
    have y1 := BS.out.cell 1
    have y2 := BS.out.cell 2
    have y3 := BS.out.cell 3
    have y4 := BS.out.cell 4
    have y5 := BS.out.cell 5
    have y6 := BS.out.cell 6
    have y7 := BS.out.cell 7
    go_wp2_with (at_builtin; refine wpList_newAt rfl _ _ rfl el_pl HO.out rfl 1 _ rfl _ rfl (by decide) rfl (by simp [Value.oneCell']) (by omega) G0.out ⟨Nat.le_refl _, G0.out.size⟩ ?_; intro v5 w5 hO5 hg5 hgr5 hb5; have HO5 := Lib.hid hO5; have GR5 := Lib.hid hgr5; have HB5 := Lib.hid hb5; clear hO5 hg5 hgr5 hb5)
    refine HR.out _ PE.out _ _ (own_eq HO5.out (by rw [List.length_append, List.length_singleton]) (by rw [SC.out])) (grown_tr (grown_of G1.out) GR5.out) ?_
    rcases HB5.out with h | h
    · exact .inl h
    · exact .inr ⟨_, h, by have := G1.out.size; omega⟩
  · obtain ⟨n, hn⟩ : ∃ n, l.length = n + 1 := ⟨l.length - 1, by omega⟩
    have t1 : IntKind.i64.wrap ((l.length : Int) - 1) = (n : Int) := by rw [IntWalk.i64_in _ (by omega)]; omega
    have hlt : n < l.length := by omega
    have hlast : l.getLast? = some l[n] := by
      rw [List.getLast?_eq_getElem?, hn, Nat.add_sub_cancel, List.getElem?_eq_getElem hlt]
    obtain ⟨b, o, rfl, hS, hc⟩ := k4 (by omega)
    have e0 := fun W (h : Grow w W) => flat_cells PV.cells_len h hS hc hlt
    have PE := PS.out
    rw [hlast] at PE
    have PX := Lib.hid (show putP l s = if sameQ (l[n]).q s.q = true then l else l ++ [s] from PE)
    have SM := Lib.hid fun W (h : Grow w W) (R : Ending → World → Prop) hR => same_q (l[n]'hlt) s k k S S W ((HV.out _ (List.getElem_mem hlt)).gr h) (HS.out.gr h) HK.out HK.out (R := R) hR
    have T0 : Hid (0 < l.length ∧ ¬ l = []) := ⟨by omega, by rintro rfl; simp at hlt⟩
    clear k4 hc h0 PS PE hlast hn HV HS HK
    obtain ⟨sq, hsq⟩ : ∃ c, sameQ (l[n]).q s.q = c := ⟨_, rfl⟩
    rw [hsq] at PX SM
    clear hsq
    generalize l[n] = x at *
    obtain ⟨⟨⟨a1, a2, a3, a4⟩, ⟨a5, a6, a7, a8⟩, aq⟩, ⟨⟨b1, b2, b3, b4⟩, ⟨b5, b6, b7, b8⟩, bq⟩⟩ := s
    obtain ⟨⟨⟨c1, c2, c3, c4⟩, ⟨c5, c6, c7, c8⟩, cq⟩, ⟨⟨d1, d2, d3, d4⟩, ⟨d5, d6, d7, d8⟩, dq⟩⟩ := x
    unfold PV.cells at *
    dsimp only at *
    have E0 : Hid (∀ W, Grow w W → W.cell? ⟨b, o + n * 8, none⟩ = some (.bool c1) ∧ W.cell? ⟨b, o + n * 8 + 1, none⟩ = some (.slice c2 c3 c4) ∧ W.cell? ⟨b, o + n * 8 + 2, none⟩ = some (.bool c5) ∧ W.cell? ⟨b, o + n * 8 + 3, none⟩ = some (.slice c6 c7 c8) ∧ W.cell? ⟨b, o + n * 8 + 4, none⟩ = some (.bool d1) ∧ W.cell? ⟨b, o + n * 8 + 5, none⟩ = some (.slice d2 d3 d4) ∧ W.cell? ⟨b, o + n * 8 + 6, none⟩ = some (.bool d5) ∧ W.cell? ⟨b, o + n * 8 + 7, none⟩ = some (.slice d6 d7 d8)) := fun W h => ⟨e0 W h 0 _ rfl, e0 W h 1 _ rfl, e0 W h 2 _ rfl, e0 W h 3 _ rfl, e0 W h 4 _ rfl, e0 W h 5 _ rfl, e0 W h 6 _ rfl, e0 W h 7 _ rfl⟩
    clear e0
    go_enter Try.func69, Try.ntmps69
    go_wp2_with fail
    generalize w.alloc (.cells #[.bool a1, .slice a2 a3 a4, .bool a5, .slice a6 a7 a8, .bool b1, .slice b2 b3 b4, .bool b5, .slice b6 b7 b8] 37) = w1 at *
    generalize w.heap.size = bb at *
    refine wp_region_lexT (Grow w1) ((Grow.refl w1).dr) 11 [0, 1, 2, 3, 4, 5, 6, 7, 8, 9, 10] (by kernel_rfl) (by kernel_rfl) (by intro c a d v w h; cases d <;> exact h) ?_
    iterate 11 (apply lext_take; exact rfl; exact rfl; (intro W hW; obtain ⟨t0, t00⟩ := T0.out; obtain ⟨x0, x1, x2, x3, x4, x5, x6, x7⟩ := E0.out W (G1.out.tr hW); have b1 := BS.out.tr hW; have s0 := b1.cell 0; have s1 := b1.cell 1; have s2 := b1.cell 2; have s3 := b1.cell 3; have s4 := b1.cell 4; have s5 := b1.cell 5; have s6 := b1.cell 6; have s7 := b1.cell 7; clear b1; (try clear hW); go_simp; with_reducible rfl); try simp only [Act.put, List.setIfInBounds_toArray, List.set_cons_zero, List.set_cons_succ])
    refine lext_nil ?_
    simp only [List.drop_succ_cons, List.drop_zero]
    have HO := Lib.hid (own_grow HO.out (Grow.refl _).dr)
    have BS := Lib.hid (BS.out.tr (Grow.refl _).dr)
    have G0 := Lib.hid (G0.out.dr)
    have G1 := Lib.hid (G1.out.dr)
    go_wp2_with fail
    go_at_call 96
    refine SM.out _ G1.out _ ?_
    intro w2 hg2
    have HO := Lib.hid (own_grow HO.out hg2)
    have BS := Lib.hid (BS.out.tr hg2)
    have G0 := Lib.hid (G0.out.tr hg2)
    have G1 := Lib.hid (G1.out.tr hg2)
    clear hg2 SM E0 t1 hlt
    cases sq with
    | true =>
      go_wp2
      exact HR.out _ (by rw [PX.out]; rfl) _ _ (own_grow HO0.out G1.out) (grown_of G1.out) (.inl rfl)
    | false =>
      have PE : Hid (putP l (⟨(⟨⟨a1, a2, a3, a4⟩, ⟨a5, a6, a7, a8⟩, aq⟩ : RV), (⟨⟨b1, b2, b3, b4⟩, ⟨b5, b6, b7, b8⟩, bq⟩ : RV)⟩ : PV) = l ++ [(⟨(⟨⟨a1, a2, a3, a4⟩, ⟨a5, a6, a7, a8⟩, aq⟩ : RV), (⟨⟨b1, b2, b3, b4⟩, ⟨b5, b6, b7, b8⟩, bq⟩ : RV)⟩ : PV)]) := by show _ = _; rw [PX.out, if_neg (by decide)]
      have y0 := BS.out.cell 0
      have y1 := BS.out.cell 1
      have y2 := BS.out.cell 2
      have y3 := BS.out.cell 3
      have y4 := BS.out.cell 4
      have y5 := BS.out.cell 5
      have y6 := BS.out.cell 6
      have y7 := BS.out.cell 7
      go_wp2_with (at_builtin; refine wpList_newAt rfl _ _ rfl el_pl HO.out rfl 1 _ rfl _ rfl (by decide) rfl (by simp [Value.oneCell']) (by omega) G0.out ⟨Nat.le_refl _, G0.out.size⟩ ?_; intro v5 w5 hO5 hg5 hgr5 hb5; have HO5 := Lib.hid hO5; have GR5 := Lib.hid hgr5; have HB5 := Lib.hid hb5; clear hO5 hg5 hgr5 hb5)
      refine HR.out _ PE.out _ _ (own_eq HO5.out (by rw [List.length_append, List.length_singleton]) (by rw [SC.out])) (grown_tr (grown_of G1.out) GR5.out) ?_
      rcases HB5.out with h | h
      · exact .inl h
      · exact .inr ⟨_, h, by have := G1.out.size; omega⟩
set_option maxRecDepth 100000 in
set_option maxHeartbeats 4000000 in
theorem is24_any (s : Spot) (p : PV) (k : Nat) (S : Nat → Prop) (w : World) (hso : s.ok) (hs : s.rt) (hp : p.rd w S k) (hk : k ≤ 10000) (he : s.pq = p.q) {R : Ending → World → Prop}
    (hR : ∀ w', Grow w w' → R (.returned (.bool true)) w') :
    Calls Try.prog 16 #[.agg s.cells.toArray, .agg p.cells.toArray] w R := by
  have HR := Lib.hid hR
  clear hR
  unfold Spot.pq PV.q at he
  rw [PtQ.mk.injEq] at he
  have IX := Lib.hid fun W (hg : Grow w W) (R : Ending → World → Prop) hR => is_q s.x p.x k S W hso.1 hs.1 (hp.1.gr hg) hk he.1 (R := R) hR
  have IY := Lib.hid fun W (hg : Grow w W) (R : Ending → World → Prop) hR => is_q s.y p.y k S W hso.2 hs.2 (hp.2.gr hg) hk he.2 (R := R) hR
  clear hso hs hp hk he
  obtain ⟨⟨sa, sb, sc⟩, ⟨sd, se, sf⟩⟩ := s
  obtain ⟨⟨⟨a1, a2, a3, a4⟩, ⟨a5, a6, a7, a8⟩, aq⟩, ⟨⟨b1, b2, b3, b4⟩, ⟨b5, b6, b7, b8⟩, bq⟩⟩ := p
  unfold Spot.cells PV.cells
  unfold Fr.cells RV.cells at IX IY
  dsimp only at IX IY ⊢
  obtain ⟨wa, hwa⟩ : ∃ wa, wa = (w.alloc (.cells #[.int .i64 sa, .int .u64 (sb : Nat), .int .u64 (sc : Nat), .int .i64 sd, .int .u64 (se : Nat), .int .u64 (sf : Nat)] 28)).alloc (.cells #[.bool a1, .slice a2 a3 a4, .bool a5, .slice a6 a7 a8, .bool b1, .slice b2 b3 b4, .bool b5, .slice b6 b7 b8] 37) := ⟨_, rfl⟩
  have GA : Hid (Grow w wa) := by subst hwa; exact ((Grow.refl w).al _).al _
  have FA : Hid (wa.heap[w.heap.size]? = some (.cells #[.int .i64 sa, .int .u64 (sb : Nat), .int .u64 (sc : Nat), .int .i64 sd, .int .u64 (se : Nat), .int .u64 (sf : Nat)] 28 (0, 0))) := by
    subst hwa
    exact blk_al w _ _ ((Grow.refl _).al _)
  have FB : Hid (wa.heap[w.heap.size + 1]? = some (.cells #[.bool a1, .slice a2 a3 a4, .bool a5, .slice a6 a7 a8, .bool b1, .slice b2 b3 b4, .bool b5, .slice b6 b7 b8] 37 (0, 0))) := by
    subst hwa
    have := blk_al (w.alloc (.cells #[.int .i64 sa, .int .u64 (sb : Nat), .int .u64 (sc : Nat), .int .i64 sd, .int .u64 (se : Nat), .int .u64 (sf : Nat)] 28)) #[.bool a1, .slice a2 a3 a4, .bool a5, .slice a6 a7 a8, .bool b1, .slice b2 b3 b4, .bool b5, .slice b6 b7 b8] 37 (Grow.refl _)
    rwa [World.size_alloc] at this
  have z0 := cell_of_row _ w.heap.size 0 _ _ (0, 0) FA.out
  have z1 := cell_of_row _ w.heap.size 1 _ _ (0, 0) FA.out
  have z2 := cell_of_row _ w.heap.size 2 _ _ (0, 0) FA.out
  have y0 := cell_of_row _ (w.heap.size + 1) 0 _ _ (0, 0) FB.out
  have y1 := cell_of_row _ (w.heap.size + 1) 1 _ _ (0, 0) FB.out
  have y2 := cell_of_row _ (w.heap.size + 1) 2 _ _ (0, 0) FB.out
  have y3 := cell_of_row _ (w.heap.size + 1) 3 _ _ (0, 0) FB.out
  go_enter Try.func16, Try.ntmps16
  go_wp2_with fail
  rw [← hwa]
  clear hwa
  go_wp2_with fail
  go_at_call 46
  refine IX.out _ GA.out _ ?_
  intro w1 hg1
  have FA := Lib.hid (grow_blk hg1 FA.out)
  have FB := Lib.hid (grow_blk hg1 FB.out)
  have GA := Lib.hid (GA.out.tr hg1)
  clear hg1 z0 z1 z2 y0 y1 y2 y3 IX
  have z3 := cell_of_row _ w.heap.size 3 _ _ (0, 0) FA.out
  have z4 := cell_of_row _ w.heap.size 4 _ _ (0, 0) FA.out
  have z5 := cell_of_row _ w.heap.size 5 _ _ (0, 0) FA.out
  have y4 := cell_of_row _ (w.heap.size + 1) 4 _ _ (0, 0) FB.out
  have y5 := cell_of_row _ (w.heap.size + 1) 5 _ _ (0, 0) FB.out
  have y6 := cell_of_row _ (w.heap.size + 1) 6 _ _ (0, 0) FB.out
  have y7 := cell_of_row _ (w.heap.size + 1) 7 _ _ (0, 0) FB.out
  go_wp2_with fail
  go_at_call 46
  refine IY.out _ GA.out _ ?_
  intro w2 hg2
  have GA := Lib.hid (GA.out.tr hg2)
  clear hg2
  go_wp2
  exact HR.out _ GA.out
set_option maxRecDepth 100000 in
set_option maxHeartbeats 4000000 in
theorem isAll_any (l : List Spot) (m : List PV) (k : Nat) (a b : Value) (S T U : Nat → Prop) (w : World) (ha : Rd w S 6 a l.length (Spots l)) (hb : Rd w T 8 b m.length (PVs m)) (hlo : ∀ s ∈ l, s.ok ∧ s.rt) (hm : ∀ p ∈ m, p.rd w U k) (hk : k ≤ 10000) (he : l.map Spot.pq = m.map PV.q) {R : Ending → World → Prop}
    (hR : ∀ w', Grow w w' → R (.returned (.bool true)) w') :
    Calls Try.prog 21 #[a, b] w R := by
  have HR := Lib.hid hR
  clear hR
  have hlen : m.length = l.length := by have := congrArg List.length he; simpa using this.symm
  have ha := ha.lt (by decide)
  have hb := hb.lt (by decide)
  obtain ⟨_, A, c, rfl, k1, k2, k3, k4⟩ := ha
  obtain ⟨_, B, d, rfl, j1, j2, j3, j4⟩ := hb
  unfold maxLen at k2 j2
  rw [hlen] at j1 j4 ⊢
  have HE := Lib.hid he
  have HLO := Lib.hid hlo
  have HM := Lib.hid hm
  have HK := Lib.hid hk
  have HL := Lib.hid hlen
  clear he hlo hm hk hlen j3 k3
  go_enter Try.func21, Try.ntmps21
  go_wp2
  go_loopw [5] (fun i wr => ∃ (j : Nat), j ≤ l.length ∧ i = .int .i64 j ∧ Hid (Grow w wr)) (fun i _ => l.length - (Go.RowKit.intOf i).toNat)
  case atStart => exact ⟨0, Nat.zero_le _, rfl, Grow.refl _⟩
  case round =>
    obtain ⟨j, hj, rfl, hg⟩ := hrel
    by_cases hlt : j < l.length
    · have hlt2 : j < m.length := by have := HL.out; omega
      obtain ⟨bl1, o1, rfl, hS, hc⟩ := k4 (by omega)
      obtain ⟨bl2, o2, rfl, hT, hd⟩ := j4 (by omega)
      have e0 := fun W (h : Grow w W) => flat_cells Spot.cells_len h hS hc hlt
      have e1 := fun W (h : Grow w W) => flat_cells PV.cells_len h hT hd hlt2
      have hq : (l[j]).pq = (m[j]).q := by
        have h : (l.map Spot.pq)[j]? = (m.map PV.q)[j]? := by rw [HE.out]
        rw [List.getElem?_map, List.getElem?_map, List.getElem?_eq_getElem hlt, List.getElem?_eq_getElem hlt2] at h
        simpa using h
      have h1 := HLO.out _ (List.getElem_mem hlt)
      have IS := Lib.hid fun W (h : Grow w W) (R : Ending → World → Prop) hR => is24_any (l[j]'hlt) (m[j]'hlt2) k U W h1.1 h1.2 ((HM.out _ (List.getElem_mem hlt2)).gr h) HK.out hq (R := R) hR
      clear hc hd k4 j4 hq h1
      generalize l[j] = x at *
      generalize m[j] = y at *
      obtain ⟨⟨sa, sb, sc⟩, ⟨sd, se, sf⟩⟩ := x
      obtain ⟨⟨⟨a1, a2, a3, a4⟩, ⟨a5, a6, a7, a8⟩, aq⟩, ⟨⟨b1, b2, b3, b4⟩, ⟨b5, b6, b7, b8⟩, bq⟩⟩ := y
      have E0 : Hid (∀ W, Grow w W → W.cell? ⟨bl1, o1 + j * 6, none⟩ = some (.int .i64 sa) ∧ W.cell? ⟨bl1, o1 + j * 6 + 1, none⟩ = some (.int .u64 (sb : Nat)) ∧ W.cell? ⟨bl1, o1 + j * 6 + 2, none⟩ = some (.int .u64 (sc : Nat)) ∧ W.cell? ⟨bl1, o1 + j * 6 + 3, none⟩ = some (.int .i64 sd) ∧ W.cell? ⟨bl1, o1 + j * 6 + 4, none⟩ = some (.int .u64 (se : Nat)) ∧ W.cell? ⟨bl1, o1 + j * 6 + 5, none⟩ = some (.int .u64 (sf : Nat))) := fun W h => ⟨e0 W h 0 _ rfl, e0 W h 1 _ rfl, e0 W h 2 _ rfl, e0 W h 3 _ rfl, e0 W h 4 _ rfl, e0 W h 5 _ rfl⟩
      have E1 : Hid (∀ W, Grow w W → W.cell? ⟨bl2, o2 + j * 8, none⟩ = some (.bool a1) ∧ W.cell? ⟨bl2, o2 + j * 8 + 1, none⟩ = some (.slice a2 a3 a4) ∧ W.cell? ⟨bl2, o2 + j * 8 + 2, none⟩ = some (.bool a5) ∧ W.cell? ⟨bl2, o2 + j * 8 + 3, none⟩ = some (.slice a6 a7 a8) ∧ W.cell? ⟨bl2, o2 + j * 8 + 4, none⟩ = some (.bool b1) ∧ W.cell? ⟨bl2, o2 + j * 8 + 5, none⟩ = some (.slice b2 b3 b4) ∧ W.cell? ⟨bl2, o2 + j * 8 + 6, none⟩ = some (.bool b5) ∧ W.cell? ⟨bl2, o2 + j * 8 + 7, none⟩ = some (.slice b6 b7 b8)) := fun W h => ⟨e1 W h 0 _ rfl, e1 W h 1 _ rfl, e1 W h 2 _ rfl, e1 W h 3 _ rfl, e1 W h 4 _ rfl, e1 W h 5 _ rfl, e1 W h 6 _ rfl, e1 W h 7 _ rfl⟩
      clear e0 e1 hlt2
      unfold Spot.cells PV.cells at IS
      dsimp only at IS
      go_wp2_with fail
      refine wp_region_lexT (Grow w) (hg.out.dr) 8 [0, 1, 2, 3, 4, 5, 6, 7] (by kernel_rfl) (by kernel_rfl) (by intro c a d v w h; cases d <;> exact h) ?_
      iterate 8 (apply lext_take; exact rfl; exact rfl; (intro W hW; obtain ⟨x0, x1, x2, x3, x4, x5⟩ := E0.out W hW; obtain ⟨y0, y1, y2, y3, y4, y5, y6, y7⟩ := E1.out W hW; (try clear hW); go_simp; with_reducible rfl); try simp only [Act.put, List.setIfInBounds_toArray, List.set_cons_zero, List.set_cons_succ])
      refine lext_nil ?_
      simp only [List.drop_succ_cons, List.drop_zero]
      have hg := Lib.hid hg.out.dr
      go_wp2_with fail
      go_at_call 16
      refine IS.out _ hg.out _ ?_
      intro w1 hg1
      have hg := Lib.hid (hg.out.tr hg1)
      clear hg1 IS E0 E1
      go_wp2
      go_roundw
      case rel => exact ⟨j + 1, by omega, by go_num, hg.out⟩
      case measure => simp [Go.RowKit.intOf]; omega
    · obtain rfl : j = l.length := by omega
      go_wp2
      exact HR.out _ hg.out
end Go.Proofs.Ytjcgkhcbdbbdkaa
