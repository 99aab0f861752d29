import Derived.Test.YthgibnmnjoniiaaChecked
import Derived.Test.YthgibnmnjoniiaaBase
import Derived.Test.YthgibnmnjoniiaaPts
import Derived.Test.YthgibnmnjoniiaaNorm
import Derived.Test.YthgibnmnjoniiaaSimp
namespace Go.Proofs.Ythgibnmnjoniiaa
open Go.RowKit Go.Lib B

set_option maxRecDepth 100000 in
set_option maxHeartbeats 1000000 in
theorem live26_any (w : World) {R : Ending → World → Prop} (hR : ∀ w', Grow w w' → R (.returned (.bool true)) w') :
    Calls Try.prog 18 #[] w R := by
  have HR := Lib.hid hR
  clear hR
  have hs : simple [⟨0, 0⟩, ⟨0, 0⟩, ⟨1, 0⟩, ⟨0, 0⟩] true = [⟨0, 0⟩, ⟨1, 0⟩] := by decide
  go_enter Try.func18, Try.ntmps18
  go_wp2_with fail
  refine simple_any [⟨0, 0⟩, ⟨0, 0⟩, ⟨1, 0⟩, ⟨0, 0⟩] true _ (fun b => b = w.heap.size) _ (Rd.laid (w := w) (size := 2) #[.int .i64 0, .int .i64 0, .int .i64 0, .int .i64 0, .int .i64 1, .int .i64 0, .int .i64 0, .int .i64 0] 24 (0, 0) 4 (by decide) rfl (Grow.refl _)) (by simp) ?_
  intro r1 w1 hown1 hg1
  rw [hs] at hown1
  have HG1 := Lib.hid hg1
  have HO1 := Lib.hid hown1
  clear hg1 hown1 hs
  go_wp2_with fail
  refine samePts_any r1 _ [⟨0, 0⟩, ⟨1, 0⟩] [⟨0, 0⟩, ⟨1, 0⟩] _ (fun b => b = w1.heap.size) _ (Rd.own (HO1.out.alloc _)) (Rd.laid (w := w1) (size := 2) #[.int .i64 0, .int .i64 0, .int .i64 1, .int .i64 0] 24 (0, 0) 2 (by decide) rfl (Grow.refl _)) ?_
  intro w2 hg2
  go_wp2
  exact HR.out _ (((((Grow.refl w).al _).tr HG1.out).al _).tr hg2)

theorem el_spot : Elem Try.prog 29 35 (.agg #[.int .i64 0, .int .u64 0, .int .u64 0, .int .i64 0, .int .u64 0, .int .u64 0]) 6 48 := ⟨by kernel_rfl, by kernel_rfl, rfl, by decide, by decide⟩
def wholeSpot (p : Pt) : Spot := ⟨⟨p.x, 0, 1⟩, ⟨p.y, 0, 1⟩⟩
theorem wholeSpot_ok {p : Pt} (h : p.ok) : (wholeSpot p).ok := by
  obtain ⟨⟨h1, h2⟩, h3, h4⟩ := h
  exact ⟨⟨h1, h2, by show (0 : Nat) < _; decide, by show (1 : Nat) < _; decide⟩, ⟨h3, h4, by show (0 : Nat) < _; decide, by show (1 : Nat) < _; decide⟩⟩
theorem fr_whole {x : Int} (h : inw x = true) : Fr.round ⟨x, 0, 1⟩ = x := by
  have : Fr.right ⟨x, 0, 1⟩ = true := by simp [Fr.right, h]
  simp [Fr.round, this]
theorem wholeSpot_round {p : Pt} (h : p.far = false) : (wholeSpot p).round = p := by
  obtain ⟨x, y⟩ := p
  simp [Pt.far] at h
  simp [wholeSpot, Spot.round, fr_whole h.1, fr_whole h.2]
theorem btw_round {f : Fr} {lo hi : Int} (h : f.btw lo hi = true) : lo ≤ f.round ∧ f.round ≤ hi := by
  unfold Fr.btw at h
  cases hr : f.right with
  | false => simp [hr] at h
  | true =>
    obtain ⟨_, h1, _, _, _⟩ := Fr.right_iff hr
    simp [hr] at h
    unfold Fr.round
    rw [if_pos hr]
    split <;> omega
theorem Spots_app (l m : List Spot) : Spots (l ++ m) = Spots l ++ Spots m := List.flatMap_append
theorem Spots_len (l : List Spot) : (Spots l).length = l.length * 6 := flat_len _ _ Spot.cells_len l
theorem own_rd {w : World} {base e size n : Nat} {v : Value} {xs : List Value} (h : w.ownsRow base e size v n xs) : Rd w (fun b => some b = v.ownBlock) size v n xs := Rd.own h

set_option maxRecDepth 100000 in
set_option maxHeartbeats 4000000 in
theorem normWhole_walk (p : List Pt) (l : List Spot) (lo hi : Int) (a b : Value) (S T : Nat → Prop) (w : World) (hp : Rd w S 2 a p.length (Pts p)) (hl : Rd w T 6 b l.length (Spots l)) (hpk : ∀ q ∈ p, q.ok) (hlk : ∀ s ∈ l, s.ok)
    {R : Ending → World → Prop} (hR : ∀ w', Grow w w' → R (.returned (.bool true)) w') :
    Calls Try.prog 4 #[a, b, .int .i64 lo, .int .i64 hi] w R := by
  have HR := Lib.hid hR
  clear hR
  have hp := hp.lt (by decide)
  have hl := hl.lt (by decide)
  have HP := Lib.hid hp
  have HL := Lib.hid hl
  have HPK := Lib.hid hpk
  have HLK := Lib.hid hlk
  clear hpk hlk
  obtain ⟨_, A, c, rfl, h1, h2, h3, h4⟩ := hp
  obtain ⟨_, B, d, rfl, k1, k2, k3, k4⟩ := hl
  unfold maxLen at h2 k2
  by_cases hp1 : p.length ≤ 100
  · have t1 : decide (100 < (p.length : Int)) = false := by simp; omega
    by_cases hl1 : l.length ≤ 100
    · have t2 : decide (100 < (l.length : Int)) = false := by simp; omega
      go_enter Try.func4, Try.ntmps4
      go_wp2
      clear t1 t2
      go_loopw [10, 9] (fun i s wr => ∃ (k : Nat), k ≤ p.length ∧ i = .int .i64 k ∧ wr.ownsRow w.heap.size 35 6 s k (Spots ((p.take k).map wholeSpot)) ∧ Hid (∀ q ∈ p.take k, q.far = false) ∧ Hid (Grow w wr)) (fun i _ _ => p.length - (intOf i).toNat)
      case atStart => exact ⟨0, Nat.zero_le _, rfl, World.ownsRow_nil _ _ _ _, by intro q hq; simp at hq, Grow.refl _⟩
      case round =>
        obtain ⟨k, hk, rfl, hown, hfar, hg⟩ := hrel
        by_cases hlt : k < p.length
        · obtain ⟨b1, o1, rfl, hS, hc⟩ := h4 (by omega)
          have e0 := fun W (h : Grow w W) => flat_cells Pt.cells_len h hS hc hlt
          have HT : Hid (Spots ((p.take (k + 1)).map wholeSpot) = Spots ((p.take k).map wholeSpot) ++ (wholeSpot p[k]).cells) := by
            show _ = _
            rw [List.take_succ_eq_append_getElem hlt, List.map_append, Spots_app]
            simp [Spots]
          have HF : Hid (p[k].far = false → ∀ q ∈ p.take (k + 1), q.far = false) := by
            intro h q hq
            rw [List.take_succ_eq_append_getElem hlt] at hq
            rcases List.mem_append.1 hq with hq | hq
            · exact hfar.out q hq
            · rw [List.mem_singleton.1 hq]; exact h
          have HO := Lib.hid hown
          clear hc h4 h3 hown
          generalize p[k] = x at *
          have HX := Lib.hid fun W (R : Ending → World → Prop) hR => pfar_any x W (R := R) hR
          have hx1 := fun W h => e0 W h 0 _ rfl
          have hx2 := fun W h => e0 W h 1 _ rfl
          simp only [Nat.add_zero] at hx1
          clear e0
          cases hxf : x.far with
          | true =>
            rw [hxf] at HX
            obtain ⟨x1, x2⟩ := x
            unfold Pt.cells at HX
            dsimp only at HX hx1 hx2
            have y1 := hx1 wr hg.out
            have y2 := hx2 wr hg.out
            clear hx1 hx2
            go_wp2_with fail
            refine HX.out _ _ ?_
            intro w1 hg1
            go_wp2_with fail
            refine live26_any _ ?_
            intro w2 hg2
            go_wp2
            exact HR.out _ ((hg.out.tr hg1).tr hg2)
          | false =>
            rw [hxf] at HX
            have HF2 := Lib.hid (HF.out hxf)
            obtain ⟨x1, x2⟩ := x
            unfold Pt.cells at HX
            dsimp only at HX hx1 hx2
            have y1 := hx1 wr hg.out
            have y2 := hx2 wr hg.out
            go_wp2_with fail
            refine HX.out _ _ ?_
            intro w1 hg1
            clear y1 y2
            have HG1 := Lib.hid (hg.out.tr hg1)
            have HO1 := Lib.hid (own_grow HO.out hg1)
            clear hg1
            go_wp2_with fail
            have HHX1 := Lib.hid hx1
            have HHX2 := Lib.hid hx2
            have HLT : Hid (∀ kk, u9.ownBlock = some kk → kk < wr.heap.size) := fun kk hk => (HO.out.lt kk hk).2
            clear hx1 hx2
            refine wp_region_lexG (Grow w) HG1.out.dr [0, 1, 2, 3, 4, 5, 6, 7, 8, 9, 10, 11, 12, 13, 14, 15, 16] (by kernel_rfl) (by kernel_rfl) rfl (by kernel_rfl) (by intro c a d v w h; cases d <;> exact h) ?_
            iterate 14 (refine lexg_take (v := ?_) rfl ?_ ?_ ?_; rotate_left; (rfl); (intro W hW; have y1 := HHX1.out W hW; have y2 := HHX2.out W hW; clear hW; go_simp; with_reducible rfl); try simp only [Act.put, List.setIfInBounds_toArray, List.set_cons_zero, List.set_cons_succ])
            refine lexg_turn rfl rfl rfl ?_; intro K hK; go_simp; refine hK.out _ _ (HG1.out.dr.al _) ?_
            clear hK
            try simp only [Act.put, List.setIfInBounds_toArray, List.set_cons_zero, List.set_cons_succ]
            refine lexg_turn rfl rfl rfl ?_; intro K hK; refine oper_new _ _ rfl el_spot (own_grow HO1.out (Grow.refl _).dr) rfl 1 _ rfl (by decide) rfl (by simp [Value.oneCell']) (by omega) (HG1.out.dr.size) ?_; intro v' w' k1 k2
            have HG2 := Lib.hid (grow_app HG1.out.dr k2 (own_ge HO1.out))
            refine hK.out _ _ HG2.out ?_
            clear hK
            have HO2 := Lib.hid k1
            clear k1 k2
            try simp only [Act.put, List.setIfInBounds_toArray, List.set_cons_zero, List.set_cons_succ]
            refine lexg_take (v := ?_) rfl ?_ ?_ ?_; rotate_left; (rfl); (intro W hW; clear hW; go_simp; with_reducible rfl)
            try simp only [Act.put, List.setIfInBounds_toArray, List.set_cons_zero, List.set_cons_succ]
            refine lex_nil ?_
            go_wp2
            go_roundw
            case rel => exact ⟨k + 1, by omega, by go_num, own_eq HO2.out rfl (by rw [HT.out]; rfl), HF2.out, HG2.out⟩
            case measure => simp [intOf]; omega
        · obtain rfl : k = p.length := by omega
          have hfr := hfar.out
          rw [List.take_length] at hfr hown
          have HFR := Lib.hid hfr
          have HO := Lib.hid hown
          clear hfr hown hfar h4 h3
          go_wp2_with fail
          refine nround_any l _ _ wr (HL.out.gr (by decide) hg.out) HLK.out (by omega) ?_
          intro r1 w1 hown1 hg1
          have HG1 := Lib.hid (hg.out.tr hg1)
          have HO1 := Lib.hid (own_grow HO.out hg1)
          have HR1 := Lib.hid hown1
          have HB1 := Lib.hid hg.out.size
          obtain ⟨A1, c1, hr1⟩ : ∃ A c, r1 = .slice A l.length c := by
            obtain ⟨_, A, c, h, _⟩ := Rd.own hown1
            exact ⟨A, c, h⟩
          subst hr1
          clear hg1 hown1 HO
          go_wp2_with fail
          refine nround_any (p.map wholeSpot) _ _ w1 (by have := Rd.own HO1.out; rw [List.length_map]; exact this) (by intro s hs; obtain ⟨q, hq, rfl⟩ := List.mem_map.1 hs; exact wholeSpot_ok (HPK.out q hq)) (by simp; omega) ?_
          intro r2 w2 hown2 hg2
          have HG2 := Lib.hid (HG1.out.tr hg2)
          have HR2 := Lib.hid (own_grow HR1.out hg2)
          have hmap : ((p.map wholeSpot).map Spot.round) = p := by
            rw [List.map_map]
            exact (List.map_congr_left (fun q hq => wholeSpot_round (HFR.out q hq))).trans (List.map_id p)
          rw [hmap, List.length_map] at hown2
          have HO2 := Lib.hid hown2
          clear hown2 hg2 hmap HR1
          go_wp2_with fail
          refine samePts_any r2 _ p p _ _ w2 (Rd.own HO2.out) (HP.out.gr (by decide) HG2.out) ?_
          intro w3 hg3
          have HG3 := Lib.hid (HG2.out.tr hg3)
          have HR3 := Lib.hid (own_grow HR2.out hg3)
          clear hg3 HR2 HO2 HO1 HG1 HG2
          go_wp2
          go_loopw [12] (fun i wz => ∃ (j : Nat), j ≤ l.length ∧ i = .int .i64 j ∧ Hid (Grow w3 wz)) (fun i _ => l.length - (intOf i).toNat)
          case atStart => exact ⟨0, Nat.zero_le _, rfl, Grow.refl _⟩
          case round =>
            obtain ⟨j, hj, rfl, hgz⟩ := hrel
            by_cases hjl : j < l.length
            · obtain ⟨b2, o2, rfl, hS2, hc2⟩ := k4 (by omega)
              have hlx := HLK.out l[j] (List.getElem_mem hjl)
              obtain ⟨g, rfl⟩ : ∃ g, A1 = some ⟨g, 0, none⟩ := by
                rcases HR3.out.2 with ⟨h, h0⟩ | ⟨g, cap, cur, h, _⟩
                · omega
                · injection h with h
                  exact ⟨g, h⟩
              have e1 := fun W (h : Grow w W) => flat_cells Spot.cells_len h hS2 hc2 hjl
              have e2 := fun W (h : Grow w3 W) => own_pt (own_grow HR3.out h) (j := j) (by simpa using hjl)
              simp only [List.getElem_map] at e2
              have HGZ := Lib.hid hgz.out
              clear hc2 k4 k3 hgz
              generalize l[j] = x at *
              obtain ⟨⟨q1, s1, d1⟩, ⟨q2, s2, d2⟩⟩ := x
              obtain ⟨hx1, hx2⟩ := hlx
              have HIN : Hid (Fr.btw ⟨q1, s1, d1⟩ lo hi = true → Fr.btw ⟨q2, s2, d2⟩ lo hi = true → Pt.inside ⟨Fr.round ⟨q1, s1, d1⟩, Fr.round ⟨q2, s2, d2⟩⟩ lo hi = true) := by
                intro g1 g2
                have g1 := btw_round g1
                have g2 := btw_round g2
                simp [Pt.inside]
                omega
              have HX := Lib.hid fun W (R : Ending → World → Prop) hR => btw_any ⟨q1, s1, d1⟩ lo hi W hx1 (R := R) hR
              have HY := Lib.hid fun W (R : Ending → World → Prop) hR => btw_any ⟨q2, s2, d2⟩ lo hi W hx2 (R := R) hR
              have HI := Lib.hid fun W (R : Ending → World → Prop) hR => inside_any ⟨Fr.round ⟨q1, s1, d1⟩, Fr.round ⟨q2, s2, d2⟩⟩ lo hi W (R := R) hR
              have E1 : Hid (∀ W, Grow w W → W.cell? ⟨b2, o2 + j * 6, none⟩ = some (.int .i64 q1) ∧ W.cell? ⟨b2, o2 + j * 6 + 1, none⟩ = some (.int .u64 s1) ∧ W.cell? ⟨b2, o2 + j * 6 + 2, none⟩ = some (.int .u64 d1)) := fun W h => ⟨e1 W h 0 _ rfl, e1 W h 1 _ rfl, e1 W h 2 _ rfl⟩
              have E2 : Hid (∀ W, Grow w W → W.cell? ⟨b2, o2 + j * 6 + 3, none⟩ = some (.int .i64 q2) ∧ W.cell? ⟨b2, o2 + j * 6 + 4, none⟩ = some (.int .u64 s2) ∧ W.cell? ⟨b2, o2 + j * 6 + 5, none⟩ = some (.int .u64 d2)) := fun W h => ⟨e1 W h 3 _ rfl, e1 W h 4 _ rfl, e1 W h 5 _ rfl⟩
              have E3 : Hid (∀ W, Grow w3 W → W.cell? ⟨g, j * 2, none⟩ = some (.int .i64 (Fr.round ⟨q1, s1, d1⟩)) ∧ W.cell? ⟨g, j * 2 + 1, none⟩ = some (.int .i64 (Fr.round ⟨q2, s2, d2⟩))) := fun W h => ⟨e2 W h 0 _ rfl, e2 W h 1 _ rfl⟩
              clear e1 e2 hx1 hx2
              unfold Fr.cells at HX HY
              unfold Pt.cells at HI
              dsimp only at HX HY HI
              generalize Pt.inside ⟨Fr.round ⟨q1, s1, d1⟩, Fr.round ⟨q2, s2, d2⟩⟩ lo hi = bi at *
              generalize Fr.round ⟨q1, s1, d1⟩ = X at *
              generalize Fr.round ⟨q2, s2, d2⟩ = Y at *
              generalize Fr.btw ⟨q1, s1, d1⟩ lo hi = bx at *
              generalize Fr.btw ⟨q2, s2, d2⟩ lo hi = bY at *
              have G1 := Lib.hid (HG3.out.tr HGZ.out)
              obtain ⟨c0, c1, c2⟩ := E1.out wr G1.out
              cases bx with
              | false =>
                go_wp2_with (go_at_call 22; refine HX.out _ _ ?_; intro w5 hg5; have G5 := Lib.hid (HGZ.out.tr hg5); clear hg5)
                go_roundw
                case rel => exact ⟨j + 1, by omega, by go_num, G5.out⟩
                case measure => simp [intOf]; omega
              | true =>
                go_wp2_with fail
                refine HX.out _ _ ?_
                intro w5 hg5
                have G5 := Lib.hid (HGZ.out.tr hg5)
                have F5 := Lib.hid (G1.out.tr hg5)
                clear hg5 c0 c1 c2
                obtain ⟨c3, c4, c5⟩ := E2.out w5 F5.out
                cases bY with
                | false =>
                  go_wp2_with fail
                  refine HY.out _ _ ?_
                  intro w6 hg6
                  have G6 := Lib.hid (G5.out.tr hg6)
                  clear hg6
                  go_wp2
                  go_roundw
                  case rel => exact ⟨j + 1, by omega, by go_num, G6.out⟩
                  case measure => simp [intOf]; omega
                | true =>
                  obtain rfl : bi = true := by simpa using HIN.out
                  go_wp2_with fail
                  refine HY.out _ _ ?_
                  intro w6 hg6
                  have G6 := Lib.hid (G5.out.tr hg6)
                  clear hg6 c3 c4 c5
                  obtain ⟨c6, c7⟩ := E3.out w6 G6.out
                  go_wp2_with fail
                  refine HI.out _ _ ?_
                  intro w7 hg7
                  have G7 := Lib.hid (G6.out.tr hg7)
                  clear hg7 c6 c7
                  go_wp2
                  go_roundw
                  case rel => exact ⟨j + 1, by omega, by go_num, G7.out⟩
                  case measure => simp [intOf]; omega
            · have : j = l.length := by omega
              subst this
              go_wp2_with (go_at_call 18; refine live26_any _ ?_; intro w4 hg4)
              exact HR.out _ ((HG3.out.tr hgz.out).tr hg4)
    · have t2 : decide (100 < (l.length : Int)) = true := by simp; omega
      go_enter Try.func4, Try.ntmps4
      go_wp2_with (go_at_call 18; refine live26_any _ ?_; intro w1 hg1)
      exact HR.out _ hg1
  · have t1 : decide (100 < (p.length : Int)) = true := by simp; omega
    go_enter Try.func4, Try.ntmps4
    go_wp2_with (go_at_call 18; refine live26_any _ ?_; intro w1 hg1)
    exact HR.out _ hg1
