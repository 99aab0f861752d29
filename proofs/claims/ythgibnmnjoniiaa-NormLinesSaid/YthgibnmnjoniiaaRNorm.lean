import Derived.Test.YthgibnmnjoniiaaChecked
import Derived.Test.YthgibnmnjoniiaaBox
import Derived.Test.YthgibnmnjoniiaaNorm
import Derived.Test.YthgibnmnjoniiaaSimp
namespace Go.Proofs.Ythgibnmnjoniiaa
open Go.RowKit Go.Lib B

set_option maxRecDepth 100000 in
set_option maxHeartbeats 1000000 in
theorem rfround_any (f : Fr) (w : World) (hf : f.right = true) {R : Ending → World → Prop} (hR : ∀ w', Grow w w' → R (.returned (.int .i64 f.round)) w') : Calls Try.prog 79 #[.agg f.cells.toArray] w R := by
  obtain ⟨⟨q1, q2⟩, d1, d2, r1, _⟩ := Fr.right_iff hf
  have hrd : f.round = if f.d ≤ 2 * f.r then f.q + 1 else f.q := by unfold Fr.round; rw [if_pos hf]
  rw [hrd] at hR
  clear hrd hf
  obtain ⟨q, r, d⟩ := f
  unfold Fr.cells
  dsimp only at *
  by_cases h : d ≤ 2 * r
  · rw [if_pos h] at hR
    have HR := Lib.hid hR
    clear hR
    go_enter Try.func79, Try.ntmps79
    go_wp2
    exact HR.out _ ((Grow.refl w).al _)
  · rw [if_neg h] at hR
    have HR := Lib.hid hR
    clear hR
    go_enter Try.func79, Try.ntmps79
    go_wp2
    exact HR.out _ ((Grow.refl w).al _)

theorem round_wrong {f : Fr} (h : f.right = false) : f.round = 0 := by simp [Fr.round, h]

set_option maxRecDepth 100000 in
set_option maxHeartbeats 2000000 in
theorem rround_any (l : List Spot) (v : Value) (S : Nat → Prop) (w : World) (hb : Rd w S 6 v l.length (Spots l)) (hok : ∀ s ∈ l, s.ok) (hl : l.length ≤ 1000) {R : Ending → World → Prop}
    (hR : ∀ r w', w'.ownsRow w.heap.size 24 2 r l.length (Pts (l.map Spot.round)) → Grow w w' → R (.returned r) w') :
    Calls Try.prog 24 #[v] w R := by
  have hb := hb.lt (by decide)
  obtain ⟨_, A, c, rfl, h1, h2, h3, h4⟩ := hb
  unfold maxLen at h2
  have HR := Lib.hid hR
  clear hR
  go_enter Try.func24, Try.ntmps24
  go_wp2
  go_loopw [4, 3] (fun i s wr => ∃ (k : Nat), k ≤ l.length ∧ i = .int .i64 k ∧ wr.ownsRow w.heap.size 24 2 s k (Pts ((l.take k).map Spot.round)) ∧ Hid (Grow w wr)) (fun i _ _ => l.length - (intOf i).toNat)
  case atStart => exact ⟨0, Nat.zero_le _, rfl, World.ownsRow_nil _ _ _ _, Grow.refl _⟩
  case round =>
    obtain ⟨k, hk, rfl, hown, hg⟩ := hrel
    by_cases hlt : k < l.length
    · obtain ⟨b, o, rfl, hS, hc⟩ := h4 (by omega)
      have e1 := fun W (h : Grow w W) => flat_cells Spot.cells_len h hS hc hlt
      have hx := hok l[k] (List.getElem_mem hlt)
      have HT : Hid (Pts ((l.take (k + 1)).map Spot.round) = Pts ((l.take k).map Spot.round) ++ (Pt.mk (l[k]).x.round (l[k]).y.round).cells) := by
        show _ = _
        rw [List.take_succ_eq_append_getElem hlt, List.map_append, Pts_app]
        simp [Pts, Spot.round]
      have HO := Lib.hid hown
      clear hc h4 h3 hok hown
      generalize l[k] = x at *
      obtain ⟨⟨q1, r1, d1⟩, ⟨q2, r2, d2⟩⟩ := x
      obtain ⟨hx1, hx2⟩ := hx
      have E1 : Hid (∀ W, Grow w W → W.cell? ⟨b, o + k * 6, none⟩ = some (.int .i64 q1) ∧ W.cell? ⟨b, o + k * 6 + 1, none⟩ = some (.int .u64 r1) ∧ W.cell? ⟨b, o + k * 6 + 2, none⟩ = some (.int .u64 d1)) := fun W h => ⟨e1 W h 0 _ rfl, e1 W h 1 _ rfl, e1 W h 2 _ rfl⟩
      have E2 : Hid (∀ W, Grow w W → W.cell? ⟨b, o + k * 6 + 3, none⟩ = some (.int .i64 q2) ∧ W.cell? ⟨b, o + k * 6 + 4, none⟩ = some (.int .u64 r2) ∧ W.cell? ⟨b, o + k * 6 + 5, none⟩ = some (.int .u64 d2)) := fun W h => ⟨e1 W h 3 _ rfl, e1 W h 4 _ rfl, e1 W h 5 _ rfl⟩
      clear e1
      have HX := Lib.hid fun W (R : Ending → World → Prop) hR => rright_any ⟨q1, r1, d1⟩ W hx1 (R := R) hR
      have HY := Lib.hid fun W (R : Ending → World → Prop) hR => rright_any ⟨q2, r2, d2⟩ W hx2 (R := R) hR
      have FX := Lib.hid fun hf W (R : Ending → World → Prop) hR => rfround_any ⟨q1, r1, d1⟩ W hf (R := R) hR
      have FY := Lib.hid fun hf W (R : Ending → World → Prop) hR => rfround_any ⟨q2, r2, d2⟩ W hf (R := R) hR
      have ZX : Hid (Fr.right ⟨q1, r1, d1⟩ = false → Fr.round ⟨q1, r1, d1⟩ = 0) := round_wrong
      have ZY : Hid (Fr.right ⟨q2, r2, d2⟩ = false → Fr.round ⟨q2, r2, d2⟩ = 0) := round_wrong
      dsimp only at HT
      unfold Fr.cells at HX HY FX FY
      dsimp only at HX HY FX FY
      generalize Fr.round ⟨q1, r1, d1⟩ = X at *
      generalize Fr.round ⟨q2, r2, d2⟩ = Y at *
      generalize Fr.right ⟨q1, r1, d1⟩ = bx at *
      generalize Fr.right ⟨q2, r2, d2⟩ = bY at *
      obtain ⟨y0, y1, y2⟩ := E1.out _ (hg.out.al (.cells #[.int .i64 0, .int .i64 0] 24))
      go_wp2_with fail
      refine HX.out _ _ ?_
      intro w1 hg1
      have B1 := Lib.hid ((BoxH.laid #[.int .i64 0, .int .i64 0] 24 (Grow.refl wr)).tr hg1)
      clear hg1 y0 y1 y2
      cases bx with
      | false =>
        obtain rfl : X = 0 := ZX.out rfl
        obtain ⟨y3, y4, y5⟩ := E2.out _ (hg.out.tr B1.out.grow)
        go_wp2_with fail
        refine HY.out _ _ ?_
        intro w3 hg3
        have C1 := Lib.hid (B1.out.tr hg3)
        clear hg3 y3 y4 y5
        cases bY with
        | false =>
          obtain rfl : Y = 0 := ZY.out rfl
          have z0 := C1.out.cell 0
          have z1 := C1.out.cell 1
          go_wp2_with (at_builtin; refine wpList_new rfl _ _ rfl el_pt (own_grow HO.out C1.out.grow) rfl 1 _ rfl (by decide) rfl (by simp [Value.oneCell']) (by omega) (hg.out.tr C1.out.grow) ⟨Nat.le_refl _, (hg.out.tr C1.out.grow).size⟩ ?_; intro v1 w4 hown4 hg4 hgr4 hb4; have HG4 := Lib.hid hg4; have HO4 := Lib.hid hown4; clear hg4 hgr4 hb4 hown4 z0 z1)
          go_roundw
          case rel => exact ⟨k + 1, by omega, by go_num, own_eq HO4.out rfl (by rw [HT.out]; rfl), HG4.out⟩
          case measure => simp [intOf]; omega
        | true =>
          obtain ⟨y3, y4, y5⟩ := E2.out _ (hg.out.tr C1.out.grow)
          go_wp2_with fail
          refine FY.out (by first | rfl | trivial) _ _ ?_
          intro w4 hg4
          have C2 := Lib.hid (C1.out.tr hg4)
          clear hg4 y3 y4 y5
          have z0 := C2.out.cell 0
          have z1 := C2.out.cell 1
          have f1 := C2.out.free 1
          have C3 := Lib.hid (C2.out.set 1 (.int .i64 Y))
          have u0 := C3.out.cell 0
          have u1 := C3.out.cell 1
          go_wp2_with (at_builtin; refine wpList_newAt rfl _ _ rfl el_pt (own_grow HO.out C3.out.grow) rfl 1 _ (size_setCell _ _ _) _ rfl (by decide) rfl (by simp [Value.oneCell']) (by omega) (hg.out.tr C3.out.grow) ⟨Nat.le_refl _, (hg.out.tr C3.out.grow).size⟩ ?_; intro v1 w5 hown5 hg5 hgr5 hb5; have HG5 := Lib.hid hg5; have HO5 := Lib.hid hown5; clear hg5 hgr5 hb5 hown5 z0 z1 f1 u0 u1)
          go_roundw
          case rel => exact ⟨k + 1, by omega, by go_num, own_eq HO5.out rfl (by rw [HT.out]; rfl), HG5.out⟩
          case measure => simp [intOf]; omega
      | true =>
        obtain ⟨y0, y1, y2⟩ := E1.out _ (hg.out.tr B1.out.grow)
        go_wp2_with fail
        refine FX.out (by first | rfl | trivial) _ _ ?_
        intro w2 hg2
        have B2 := Lib.hid (B1.out.tr hg2)
        clear hg2 y0 y1 y2
        have z0 := B2.out.cell 0
        have f0 := B2.out.free 0
        have B3 := Lib.hid (B2.out.set 0 (.int .i64 X))
        obtain ⟨y3, y4, y5⟩ := E2.out _ (hg.out.tr B3.out.grow)
        go_wp2_with fail
        refine HY.out _ _ ?_
        intro w3 hg3
        have C1 := Lib.hid (B3.out.tr hg3)
        clear hg3 y3 y4 y5
        cases bY with
        | false =>
          obtain rfl : Y = 0 := ZY.out rfl
          have z0 := C1.out.cell 0
          have z1 := C1.out.cell 1
          go_wp2_with (at_builtin; refine wpList_new rfl _ _ rfl el_pt (own_grow HO.out C1.out.grow) rfl 1 _ rfl (by decide) rfl (by simp [Value.oneCell']) (by omega) (hg.out.tr C1.out.grow) ⟨Nat.le_refl _, (hg.out.tr C1.out.grow).size⟩ ?_; intro v1 w4 hown4 hg4 hgr4 hb4; have HG4 := Lib.hid hg4; have HO4 := Lib.hid hown4; clear hg4 hgr4 hb4 hown4 z0 z1)
          go_roundw
          case rel => exact ⟨k + 1, by omega, by go_num, own_eq HO4.out rfl (by rw [HT.out]; rfl), HG4.out⟩
          case measure => simp [intOf]; omega
        | true =>
          obtain ⟨y3, y4, y5⟩ := E2.out _ (hg.out.tr C1.out.grow)
          go_wp2_with fail
          refine FY.out (by first | rfl | trivial) _ _ ?_
          intro w4 hg4
          have C2 := Lib.hid (C1.out.tr hg4)
          clear hg4 y3 y4 y5
          have z0 := C2.out.cell 0
          have z1 := C2.out.cell 1
          have f1 := C2.out.free 1
          have C3 := Lib.hid (C2.out.set 1 (.int .i64 Y))
          have u0 := C3.out.cell 0
          have u1 := C3.out.cell 1
          go_wp2_with (at_builtin; refine wpList_newAt rfl _ _ rfl el_pt (own_grow HO.out C3.out.grow) rfl 1 _ (size_setCell _ _ _) _ rfl (by decide) rfl (by simp [Value.oneCell']) (by omega) (hg.out.tr C3.out.grow) ⟨Nat.le_refl _, (hg.out.tr C3.out.grow).size⟩ ?_; intro v1 w5 hown5 hg5 hgr5 hb5; have HG5 := Lib.hid hg5; have HO5 := Lib.hid hown5; clear hg5 hgr5 hb5 hown5 z0 z1 f1 u0 u1)
          go_roundw
          case rel => exact ⟨k + 1, by omega, by go_num, own_eq HO5.out rfl (by rw [HT.out]; rfl), HG5.out⟩
          case measure => simp [intOf]; omega
    · obtain rfl : k = l.length := by omega
      go_wp2
      refine HR.out _ _ (own_eq hown rfl ?_) hg.out
      rw [List.take_length]
