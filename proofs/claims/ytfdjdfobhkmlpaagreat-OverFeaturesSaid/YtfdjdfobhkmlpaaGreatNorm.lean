import Derived.Test.YtfdjdfobhkmlpaaGreatPtsA
import Derived.Deep.DeepMust
namespace Go.Proofs.YtfdjdfobhkmlpaaGreat
set_option maxRecDepth 100000
open Go.RowKit B
structure Spot where
 x : Fr
 y : Fr
def Spot.cells (s : Spot) : List Value := [.int .i64 s.x.q, .int .u64 s.x.r, .int .u64 s.x.d, .int .i64 s.y.q, .int .u64 s.y.r, .int .u64 s.y.d]
theorem Spot.cells_len (s : Spot) : s.cells.length = 6 := rfl
def Spot.ok (s : Spot) : Prop := s.x.ok /\ s.y.ok
def Spot.round (s : Spot) : Pt := ⟨s.x.round, s.y.round⟩
def Spots (l : List Spot) : List Value := l.flatMap Spot.cells
theorem el_pt : Elem Tryz.prog 37 39 (.agg #[.int .i64 0, .int .i64 0]) 2 16 := ⟨by kernel_rfl, by kernel_rfl, rfl, by decide, by decide⟩
set_option maxHeartbeats 2000000 in
theorem nround_any (l : List Spot) (v : Value) (S : Nat -> Prop) (w : World) (hb : Rd w S 6 v l.length (Spots l)) (hok : ∀ s ∈ l, s.ok) (hl : l.length <= 100000) {R : Ending -> World -> Prop}
  (hR : ∀ r w', w'.ownsRow w.heap.size 39 2 r l.length (Pts (l.map Spot.round)) -> Grow w w' -> R (.returned r) w') :
  Calls Tryz.prog 66 #[v] w R := by
 have hb := hb.lt (by decide); obtain ⟨_, A, c, rfl, h1, h2, h3, h4⟩ := hb; unfold maxLen at h2; have HR := Lh hR; clear hR; go_enter Tryz.func66, Tryz.ntmps66
 go_wp2
 go_loopw [8, 3] (fun i s wr => ∃ (k : Nat), k <= l.length /\ i = .int .i64 k /\ wr.ownsRow w.heap.size 39 2 s k (Pts ((l.take k).map Spot.round)) /\ Hid (Grow w wr)) (fun i _ _ => l.length - (intOf i).toNat)
 case atStart => exact ⟨0, Nat.zero_le _, rfl, World.ownsRow_nil _ _ _ _, Grow.refl _⟩
 case round =>
  obtain ⟨k, hk, rfl, hown, hg⟩ := hrel
  by_cases hlt : k < l.length
  ·obtain ⟨b, o, rfl, hS, hc⟩ := h4 (by omega)
   have e1 := flat_cells Spot.cells_len hg.out hS hc hlt; have hx := hok l[k] (List.getElem_mem hlt)
   have HT : Hid (Pts ((l.take (k + 1)).map Spot.round) = Pts ((l.take k).map Spot.round) ++ (Pt.mk (l[k]).x.round (l[k]).y.round).cells) := by
    show _ = _; rw [List.take_succ_eq_append_getElem hlt, List.map_append, Pts_app]; simp [Pts, Spot.round]
   have HO := Lh hown; clear hc h4 h3 hok hown; generalize l[k] = x at *; obtain ⟨⟨q1, r1, d1⟩, ⟨q2, r2, d2⟩⟩ := x; obtain ⟨hx1, hx2⟩ := hx; have c0 := e1 0 _ rfl; have c1 := e1 1 _ rfl; have c2 := e1 2 _ rfl; have c3 := e1 3 _ rfl; have c4 := e1 4 _ rfl; have c5 := e1 5 _ rfl; simp only [Nat.add_zero] at c0; clear e1; have HX := Lh fun W (R : Ending -> World -> Prop) hR => fround_any ⟨q1, r1, d1⟩ W hx1 (R := R) hR
   have HY := Lh fun W (R : Ending -> World -> Prop) hR => fround_any ⟨q2, r2, d2⟩ W hx2 (R := R) hR
   dsimp only at HT; generalize Fr.round ⟨q1, r1, d1⟩ = X at *; generalize Fr.round ⟨q2, r2, d2⟩ = Y at *; unfold Fr.cells at HX HY; dsimp only at HX HY; go_wp2_with fail
   have hbx := fun W (h : Grow (wr.alloc _) W) => Boxed.laid (cs := #[.int .i64 q1, .int .u64 r1, .int .u64 d1, .int .i64 q2, .int .u64 r2, .int .u64 d2]) (t := 109) hg.out h
   have HBX := Lh hbx; have HLT : Hid (∀ kk, u3.ownBlock = some kk -> kk < wr.heap.size) := fun kk hk => (HO.out.lt kk hk).2
   clear hbx; refine wp_region_lexG (Boxed w wr.heap.size #[.int .i64 q1, .int .u64 r1, .int .u64 d1, .int .i64 q2, .int .u64 r2, .int .u64 d2]) (HBX.out _ (Grow.refl _).dr) [0, 1, 2, 4, 5, 3, 6, 7, 8, 9, 10] (by kernel_rfl) (by kernel_rfl) rfl (by kernel_rfl) (by intro c a d v w h; cases d <;> exact h) ?_; have hB := HBX.out _ (Grow.refl (wr.alloc _)).dr; have hO := Lh (own_grow HO.out ((Grow.refl wr).al (.cells #[.int .i64 q1, .int .u64 r1, .int .u64 d1, .int .i64 q2, .int .u64 r2, .int .u64 d2] 109)).dr)
   iterate 5 (refine lexg_take (v := ?_) rfl ?_ ?_ ?_; rotate_left; (rfl); (intro W hW; obtain ⟨_, _, bx⟩ := hW; go_simp; with_reducible rfl); simp only [Act.put, sA, sZ, sS])
   refine lexg_turn rfl rfl rfl ?_; intro K hK; go_simp; go_at_call 91; refine HX.out _ _ ?_; intro w2 hg2; have hB := hB.tr hg2; have hO := Lh (own_grow hO.out hg2); refine hK.out _ _ hB ?_; clear hK
   try simp only [Act.put, sA, sZ, sS]
   refine lexg_turn rfl rfl rfl ?_; intro K hK; go_simp; go_at_call 91; refine HY.out _ _ ?_; intro w3 hg3; have hB := hB.tr hg3; have hO := Lh (own_grow hO.out hg3); refine hK.out _ _ hB ?_; clear hK
   try simp only [Act.put, sA, sZ, sS]
   refine lexg_take (v := ?_) rfl ?_ ?_ ?_; rotate_left; (rfl); (intro W hW; clear hW; go_simp; with_reducible rfl)
   try simp only [Act.put, sA, sZ, sS]
   refine lexg_turn rfl rfl rfl ?_; intro K hK; go_simp; refine hK.out _ _ (hB.tr ((Grow.refl _).al _)) ?_; clear hK
   try simp only [Act.put, sA, sZ, sS]
   refine lexg_turn rfl rfl rfl ?_; intro K hK; refine oper_new _ _ rfl el_pt hO.out rfl 1 _ rfl (by decide) rfl (by simp [Value.oneCell']) (by omega) (hB.1.size) ?_; intro v' w' k1 k2; refine hK.out _ _ (hB.by_ k2 (own_ge hO.out) (by intro e; have := HLT.out _ e.symm; omega)) ?_; clear hK; have hO2 := Lh k1; have hG2 := Lh (hB.by_ k2 (own_ge hO.out) (by intro e; have := HLT.out _ e.symm; omega)).1; clear k1 k2 hB hO
   try simp only [Act.put, sA, sZ, sS]
   refine lexg_take (v := ?_) rfl ?_ ?_ ?_; rotate_left; (rfl); (intro W hW; clear hW; go_simp; with_reducible rfl)
   try simp only [Act.put, sA, sZ, sS]
   refine lex_nil ?_; go_wp2; go_roundw
   case rel => exact ⟨k + 1, by omega, by go_num, own_eq hO2.out rfl (by rw [HT.out]; rfl), hG2⟩
   case measure => simp [intOf]; omega
  ·obtain rfl : k = l.length := by omega
   go_wp2; refine HR.out _ _ (own_eq hown rfl ?_) hg.out; rw [List.take_length]
