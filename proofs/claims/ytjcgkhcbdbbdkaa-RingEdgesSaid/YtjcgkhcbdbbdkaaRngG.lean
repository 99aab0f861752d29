/-
  ring.Edges; RingEdges, walked.
-/
import Derived.Test.YtjcgkhcbdbbdkaaChecked
import Derived.Test.YtjcgkhcbdbbdkaaRngE
import Derived.Test.YtjcgkhcbdbbdkaaRngP
namespace Go.Proofs.Ytjcgkhcbdbbdkaa
open Go.RowKit B

structure Edge where
  a : Spot
  b : Spot
def Edge.cells (e : Edge) : List Value := [.int .i64 e.a.x.q, .int .u64 e.a.x.r, .int .u64 e.a.x.d, .int .i64 e.a.y.q, .int .u64 e.a.y.r, .int .u64 e.a.y.d, .int .i64 e.b.x.q, .int .u64 e.b.x.r, .int .u64 e.b.x.d, .int .i64 e.b.y.q, .int .u64 e.b.y.r, .int .u64 e.b.y.d]
theorem Edge.cells_len (e : Edge) : e.cells.length = 12 := rfl
def Edges (l : List Edge) : List Value := l.flatMap Edge.cells
theorem Edges_app (l m : List Edge) : Edges (l ++ m) = Edges l ++ Edges m := List.flatMap_append
def edN (a b : Spot) : List Edge := [⟨a, b⟩]
theorem edN_len (l : List Spot) : ∀ k, k ≤ l.length → (cycTo edN l k).length = k
  | 0, _ => rfl
  | k + 1, h => by
    rw [cycTo_succ _ _ _ (by omega) (Nat.mod_lt _ (by omega)), List.length_append, edN_len l k (by omega)]; rfl
theorem edN_at (l : List Spot) : ∀ n k (hn : n ≤ l.length) (hk : k < n), (cycTo edN l n)[k]? = some ⟨l[k], l[(k + 1) % l.length]'(Nat.mod_lt _ (by omega))⟩
  | 0, k, _, hk => by omega
  | n + 1, k, hn, hk => by
    rw [cycTo_succ _ _ _ (by omega) (Nat.mod_lt _ (by omega))]
    by_cases h : k < n
    · rw [List.getElem?_append_left (by rw [edN_len l n (by omega)]; exact h)]
      exact edN_at l n k (by omega) h
    · obtain rfl : k = n := by omega
      rw [List.getElem?_append_right (by rw [edN_len l k (by omega)]; exact Nat.le_refl _), edN_len l k (by omega), Nat.sub_self]
      rfl
theorem el_edge : Elem Try.prog 66 68 (.agg #[.int .i64 0, .int .u64 0, .int .u64 0, .int .i64 0, .int .u64 0, .int .u64 0, .int .i64 0, .int .u64 0, .int .u64 0, .int .i64 0, .int .u64 0, .int .u64 0]) 12 96 := ⟨by kernel_rfl, by kernel_rfl, rfl, by decide, by decide⟩

set_option maxRecDepth 100000 in
set_option maxHeartbeats 4000000 in
theorem edges25_any (l : List Spot) (v : Value) (S : Nat → Prop) (w : World) (hb : Rd w S 6 v l.length (Spots l)) (hl : l.length ≤ 1000) {R : Ending → World → Prop}
    (hR : ∀ r w', w'.ownsRow w.heap.size 68 12 r l.length (Edges (cycTo edN l l.length)) → Grow w w' → R (.returned r) w') :
    Calls Try.prog 31 #[v] w R := by
  have HR := Lib.hid hR
  clear hR
  have hb := hb.lt (by decide)
  obtain ⟨_, A, c, rfl, k1, k2, k3, k4⟩ := hb
  unfold maxLen at k2
  go_enter Try.func31, Try.ntmps31
  go_wp2
  go_loopw [8, 3] (fun i s wr => ∃ (k : Nat), k ≤ l.length ∧ i = .int .i64 k ∧ wr.ownsRow w.heap.size 68 12 s k (Edges (cycTo edN l k)) ∧ Hid (Grow w wr)) (fun i _ _ => l.length - (intOf i).toNat)
  case atStart => exact ⟨0, Nat.zero_le _, rfl, World.ownsRow_nil _ _ _ _, Grow.refl _⟩
  case round =>
    obtain ⟨k, hk, rfl, hown, hg⟩ := hrel
    by_cases hlt : k < l.length
    · obtain ⟨b, o, rfl, hS, hc⟩ := k4 (by omega)
      have hm : (k + 1) % l.length < l.length := Nat.mod_lt _ (by omega)
      have e0 := fun W (h : Grow w W) => flat_cells Spot.cells_len h hS hc hlt
      have e1 := fun W (h : Grow w W) => flat_cells Spot.cells_len h hS hc hm
      have CS := Lib.hid (cycTo_succ edN l k hlt hm)
      have z4 : IntKind.i64.wrap ((k : Int) + 1) = (k : Int) + 1 := IntWalk.i64_in _ (by omega)
      have z5 : ((k : Int) + 1).tmod (l.length : Int) = (((k + 1) % l.length : Nat) : Int) := by
        rw [Int.tmod_eq_emod_of_nonneg (by omega)]; exact (Int.natCast_emod (k + 1) l.length).symm
      have z6 : ((k : Int) + 1) % (l.length : Int) = (((k + 1) % l.length : Nat) : Int) := (Int.natCast_emod (k + 1) l.length).symm
      have z1 : ((l.length : Int) == 0) = false := by rw [beq_eq_false_iff_ne]; omega
      have z2 : ¬ (l.length : Int) = 0 := by omega
      have z3 : ¬ l = [] := by rintro rfl; simp at hlt
      have ZS := Lib.hid (And.intro z4 (And.intro z5 (And.intro z6 (And.intro z1 (And.intro z2 (And.intro z3 hm))))))
      clear z1 z2 z3 z4 z5 z6
      have HO := Lib.hid hown
      clear hc k4 k3 hown
      obtain ⟨m, hmm⟩ : ∃ m, (k + 1) % l.length = m := ⟨_, rfl⟩
      simp only [hmm] at *
      generalize l[k] = x at *
      generalize l[m] = y at *
      obtain ⟨⟨xa, xb, xc⟩, ⟨xd, xe, xf⟩⟩ := x
      obtain ⟨⟨ya, yb, yc⟩, ⟨yd, ye, yf⟩⟩ := y
      have x0 := e0 wr hg.out 0 _ rfl
      have x1 := e0 wr hg.out 1 _ rfl
      have x2 := e0 wr hg.out 2 _ rfl
      have x3 := e0 wr hg.out 3 _ rfl
      have x4 := e0 wr hg.out 4 _ rfl
      have x5 := e0 wr hg.out 5 _ rfl
      simp only [Nat.add_zero] at x0
      have E1 : Hid (∀ W, Grow w W → W.cell? ⟨b, o + m * 6, none⟩ = some (.int .i64 ya) ∧ W.cell? ⟨b, o + m * 6 + 1, none⟩ = some (.int .u64 (yb : Nat)) ∧ W.cell? ⟨b, o + m * 6 + 2, none⟩ = some (.int .u64 (yc : Nat)) ∧ W.cell? ⟨b, o + m * 6 + 3, none⟩ = some (.int .i64 yd) ∧ W.cell? ⟨b, o + m * 6 + 4, none⟩ = some (.int .u64 (ye : Nat)) ∧ W.cell? ⟨b, o + m * 6 + 5, none⟩ = some (.int .u64 (yf : Nat))) := fun W h => ⟨e1 W h 0 _ rfl, e1 W h 1 _ rfl, e1 W h 2 _ rfl, e1 W h 3 _ rfl, e1 W h 4 _ rfl, e1 W h 5 _ rfl⟩
      have BX := Lib.hid (BoxH.laid #[.int .i64 xa, .int .u64 (xb : Nat), .int .u64 (xc : Nat), .int .i64 xd, .int .u64 (xe : Nat), .int .u64 (xf : Nat)] 28 hg.out)
      have HO := Lib.hid (own_grow HO.out ((Grow.refl wr).al (.cells #[.int .i64 xa, .int .u64 (xb : Nat), .int .u64 (xc : Nat), .int .i64 xd, .int .u64 (xe : Nat), .int .u64 (xf : Nat)] 28)))
      clear e0 e1 hmm hm
      go_upto_region 5 with fail
      clear x0 x1 x2 x3 x4 x5
      generalize wr.alloc (.cells #[.int .i64 xa, .int .u64 (xb : Nat), .int .u64 (xc : Nat), .int .i64 xd, .int .u64 (xe : Nat), .int .u64 (xf : Nat)] 28) = wa at *
      generalize wr.heap.size = pb at *
      clear hg
      go_wp2_with fail
      refine wp_region_lexT (fun W => BoxH w pb #[.int .i64 xa, .int .u64 (xb : Nat), .int .u64 (xc : Nat), .int .i64 xd, .int .u64 (xe : Nat), .int .u64 (xf : Nat)] 28 W) (BX.out.tr (Grow.refl _).dr) 12 [0, 1, 2, 3, 4, 5, 6, 7, 8, 9, 10, 11] (by kernel_rfl) (by kernel_rfl) (by intro c a d v w h; cases d <;> exact h) ?_
      iterate 11 (apply lext_take; exact rfl; exact rfl; (intro W hW; obtain ⟨z1, z2, z3, z4, z5, z6, z7⟩ := ZS.out; have p0 := hW.cell 0; have p1 := hW.cell 1; have p2 := hW.cell 2; have p3 := hW.cell 3; have p4 := hW.cell 4; have p5 := hW.cell 5; obtain ⟨y0, y1, y2, y3, y4, y5⟩ := E1.out W hW.grow; (try clear hW); go_simp; with_reducible rfl); try simp only [Act.put, List.setIfInBounds_toArray, List.set_cons_zero, List.set_cons_succ])
      have BX := Lib.hid (BX.out.tr (Grow.refl _).dr)
      have HO := Lib.hid (own_grow HO.out (Grow.refl _).dr)
      apply lext_turn; exact rfl; exact rfl; exact rfl; intro K hK; go_simp; refine hK.out _ _ (BX.out.tr ((Grow.refl _).al _)) ?_; clear hK; try simp only [Act.put, List.setIfInBounds_toArray, List.set_cons_zero, List.set_cons_succ]
      refine lext_nil ?_
      simp only [List.drop_succ_cons, List.drop_zero]
      go_wp2_with (at_builtin; refine wpList_newAt rfl _ _ rfl el_edge HO.out rfl 1 _ rfl _ rfl (by decide) rfl (by simp [Value.oneCell']) (by omega) BX.out.grow ⟨Nat.le_refl _, BX.out.grow.size⟩ ?_; intro v5 w5 hO5 hg5 hgr5 hb5; have HO7 := Lib.hid hO5; have GB7 := Lib.hid hg5; clear hO5 hg5 hgr5 hb5)
      go_roundw
      case rel => exact ⟨k + 1, by omega, by go_num, own_eq HO7.out rfl (by rw [CS.out, Edges_app]; simp [Edges, edN, Edge.cells]), GB7.out⟩
      case measure => simp [intOf]; omega
    · obtain rfl : k = l.length := by omega
      go_wp2
      exact HR.out _ _ hown hg.out
end Go.Proofs.Ytjcgkhcbdbbdkaa
