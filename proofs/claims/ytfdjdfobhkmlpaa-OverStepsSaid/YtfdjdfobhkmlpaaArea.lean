import Derived.Test.YtfdjdfobhkmlpaaEdges
import Derived.Test.YtfdjdfobhkmlpaaWind1
namespace Go.Proofs.Ytfdjdfobhkmlpaa
open Go.RowKit Go.Shelf
attribute [local go_sem] Oper.semAt_some

def crossT (x : Pt × Pt) : Int := x.1.x * x.2.y - x.2.x * x.1.y
def areaS : List (Pt × Pt) → Int
  | [] => 0
  | x :: l => crossT x + areaS l
theorem areaS_snoc (l : List (Pt × Pt)) (x : Pt × Pt) : areaS (l ++ [x]) = areaS l + crossT x := by
  induction l with
  | nil => simp [areaS]
  | cons y l ih => simp only [List.cons_append, areaS, ih]; omega
def areaOf (l : List Pt) : Int := areaS (edgesL l)

theorem mul_bdA {a b : Int} (ha : -2097152 ≤ a ∧ a ≤ 2097152) (hb : -2097152 ≤ b ∧ b ≤ 2097152) : -4398046511104 ≤ a * b ∧ a * b ≤ 4398046511104 := by
  have h1 : a.natAbs ≤ 2097152 := by omega
  have h2 : b.natAbs ≤ 2097152 := by omega
  have h3 : (a * b).natAbs ≤ 2097152 * 2097152 := by rw [Int.natAbs_mul]; exact Nat.mul_le_mul h1 h2
  omega
theorem areaS_bd : ∀ l : List PP, -(8796093022208 * (l.length : Int)) ≤ areaS (l.map (fun x : PP => x.1)) ∧ areaS (l.map (fun x : PP => x.1)) ≤ 8796093022208 * (l.length : Int)
  | [] => by simp [areaS]
  | x :: l => by
    have ih := areaS_bd l
    obtain ⟨h1, h2, h3, h4, h5, h6, h7, h8⟩ := x.2
    have m1 := mul_bdA ⟨h2, h1⟩ ⟨h8, h7⟩
    have m2 := mul_bdA ⟨h6, h5⟩ ⟨h4, h3⟩
    simp only [List.map_cons, areaS, crossT, List.length_cons]
    generalize areaS (l.map fun x : PP => x.1) = S at *
    omega

/-- two boxes, each with a point -/
def Two (B1 B2 : Nat) (x : Pt × Pt) (W : World) : Prop := W.heap[B1]? = some (.cells x.1.cells.toArray 36 (0, 0)) ∧ W.heap[B2]? = some (.cells x.2.cells.toArray 36 (0, 0))

theorem blk_setA {W : World} {B : Nat} {cs : Array Value} {t : TypeId} (h : W.heap[B]? = some (.cells cs t (0, 0))) (j : Nat) (v : Value) : (W.setCell ⟨B, j, none⟩ v).heap[B]? = some (.cells (cs.setIfInBounds j v) t (0, 0)) := by
  simp [World.setCell, Array.getElem?_modify, h]
theorem blk_ne {W : World} {B C : Nat} {cs : Array Value} {t : TypeId} (h : W.heap[B]? = some (.cells cs t (0, 0))) (hne : B ≠ C) (j : Nat) (v : Value) : (W.setCell ⟨C, j, none⟩ v).heap[B]? = some (.cells cs t (0, 0)) := by
  simp [World.setCell, Array.getElem?_modify, h, hne.symm]
theorem blk_alA {W : World} {B : Nat} {o : Obj} (h : W.heap[B]? = some o) (o' : Obj) : (W.alloc o').heap[B]? = some o := (Below.heap_alloc W o' B (lt_of_block h)).trans h

set_option maxRecDepth 100000 in
set_option maxHeartbeats 4000000 in
theorem area_in (l : List Pt) (v : Value) (S : Nat → Prop) (w : World) (hb : Rd w S 2 v l.length (Pts l)) (hr : rightL l = true) :
    CallsIn Fence.wide 8 Try.prog 32 #[v] w fun e W' => e = .returned (.tuple #[.int .i64 (areaOf l), .bool true]) ∧ Grow w W' := by
  have hlen : l.length ≤ 262144 := by simp [rightL] at hr; exact hr.1
  have hin : ∀ p ∈ l, p.x ≤ 2097152 ∧ -2097152 ≤ p.x ∧ p.y ≤ 2097152 ∧ -2097152 ≤ p.y := by
    intro p hp
    simp only [rightL, Bool.and_eq_true, List.all_eq_true] at hr
    have := Pt.inr_iff.1 (hr.2 p hp)
    omega
  have HB := Lib.hid (hb.lt (by decide))
  have HIN := Lib.hid hin
  have HW := Lib.hid fun (R : Ending → World → Prop) hR => wright_any l v S w hb (R := R) hR
  rw [hr] at HW
  clear hr hin
  obtain ⟨_, A, c, rfl, k1, k2, -, -⟩ := hb
  refine callsIn_of_wp_marks Try.func32 rfl trivial ?_ rfl
  simp only [Try.ntmps32, List.size_toArray, List.length_cons, List.length_nil, Nat.reduceAdd, Nat.reduceSub, Array.replicate_succ, Array.replicate_zero, List.push_toArray, List.append_toArray, List.nil_append, List.cons_append]
  gi_wp2_with fail
  refine ⟨trivial, callsIn_wide.2 (HW.out _ ?_)⟩
  intro w1 hg1
  have G1 := Lib.hid hg1
  clear hg1
  gi_wp2_with fail
  refine ⟨trivial, callsIn_wide.2 (edges_any _ _ _ _ ?_)⟩
  have hs : ((w1.alloc (.cells #[.int .i64 0] 3)).alloc (.cells #[.slice A l.length c] 33)).heap.size = w1.heap.size + 2 := by simp [World.size_alloc]
  have hG : Grow w ((w1.alloc (.cells #[.int .i64 0] 3)).alloc (.cells #[.slice A l.length c] 33)) := (G1.out.al _).al _
  have hB1 : ((w1.alloc (.cells #[.int .i64 0] 3)).alloc (.cells #[.slice A l.length c] 33)).heap[w1.heap.size]? = some (.cells #[.int .i64 0] 3 (0, 0)) := blk_alA (heap_alloc_new _ _) _
  have hB2 : ((w1.alloc (.cells #[.int .i64 0] 3)).alloc (.cells #[.slice A l.length c] 33)).heap[w1.heap.size + 1]? = some (.cells #[.slice A l.length c] 33 (0, 0)) := by
    have := heap_alloc_new (w1.alloc (.cells #[.int .i64 0] 3)) (.cells #[.slice A l.length c] 33)
    rw [World.size_alloc] at this
    exact this
  have hL : Rd ((w1.alloc (.cells #[.int .i64 0] 3)).alloc (.cells #[.slice A l.length c] 33)) (· < w.heap.size) 2 (.slice A l.length c) l.length (Pts l) := HB.out.gr2 (by decide) hG
  gi_wp2
  generalize (w1.alloc (.cells #[.int .i64 0] 3)).alloc (.cells #[.slice A l.length c] 33) = W0 at *
  have hws := G1.out.size
  refine wpIn_rangeFunc_ownH rfl (by decide) (gf := 61) (lb := #[.pointer (some ⟨w1.heap.size + 1, 0, none⟩)]) rfl trivial (enters_of Try.func61 (by kernel_rfl) rfl)
    (edges_stops _ (w1.heap.size + 1) w.heap.size (.slice A l.length c) l W0 hB2 hL hG.size HIN.out) KpE.tr (KpE.put hG.size (by omega)) (Below.refl _ _) (fun _ => rfl)
    (fun pre W => W.heap[w1.heap.size]? = some (.cells #[.int .i64 (areaS (pre.map (fun x : PP => x.1)))] 3 (0, 0)) ∧ Below w.heap.size w W ∧ W0.heap.size ≤ W.heap.size)
    (fun _ _ _ => False)
    (OwnFrom.and (blk_own _ _) (OwnFrom.and (ownFrom_below (Nat.le_refl _) (by omega)) (fun _ _ _ _ hs hg _ => Nat.le_trans hs hg.size)))
    (fun _ _ _ _ _ hs _ _ => hs)
    ⟨hB1, hG, Nat.le_refl _⟩
    (fun x a' W => ∃ B1 B2, w1.heap.size + 1 < B1 ∧ w1.heap.size + 1 < B2 ∧ Two B1 B2 x.1 W ∧ a' = { tmps := #[.slice A l.length c, undef, .int .i64 0, .bool false, .pointer (some ⟨w1.heap.size, 0, none⟩), .pointer (some ⟨B1, 0, none⟩), .pointer (some ⟨B2, 0, none⟩), .slice A l.length c, .bool true, .bool false, .slice A l.length c, .func (.func 61) #[] #[.pointer (some ⟨w1.heap.size + 1, 0, none⟩)], .agg x.1.1.cells.toArray, .agg x.1.2.cells.toArray, undef, undef, undef, undef, undef, undef, undef, undef, undef, undef, undef, undef, undef, undef], defers := [] })
    ?hAx ?assign ?body ?done ?stop
  case hAx =>
    intro x a' s X Y row hs hg hr
    obtain ⟨B1, B2, h1, h2, ⟨h3, h4⟩, h5⟩ := hs
    exact ⟨B1, B2, h1, h2, ⟨blk_own _ (fun (_ : Unit) => x.1.1.cells.toArray) () X Y row h3 hg hr, blk_own _ (fun (_ : Unit) => x.1.2.cells.toArray) () X Y row h4 hg hr⟩, h5⟩
  case assign =>
    rintro lY pre ⟨⟨⟨x1, x2⟩, ⟨y1, y2⟩⟩, hx⟩ W K ⟨hS, hGW, hZ⟩ hK
    have HK := Lib.hid hK
    clear hK
    have hS' := Lib.hid hS
    clear hS
    unfold encP encPP Pt.cells
    gi_wp2
    have hh : ∀ k o, W.heap[k]? = some o → ((W.alloc (.cells #[.int .i64 x1, .int .i64 x2] 36)).alloc (.cells #[.int .i64 y1, .int .i64 y2] 36)).heap[k]? = some o := fun k o h => blk_alA (blk_alA h _) _
    refine HK.out _ _ (((KeepsOthers.alloc _ _).trans (KeepsOthers.alloc _ _)).from _) ⟨((Below.refl _ W).alloc hGW.size _).alloc (by simp; have := hGW.size; omega) _, ?_⟩ ⟨hh _ _ hS'.out, (hGW.alloc hGW.size _).alloc (by simp; have := hGW.size; omega) _, by simp; omega⟩ ⟨W.heap.size, W.heap.size + 1, by omega, by omega, ⟨blk_alA (heap_alloc_new _ _) _, ?_⟩, rfl⟩
    · rw [hh _ _ (Array.getElem?_eq_getElem (show w1.heap.size + 1 < W.heap.size by omega)), Array.getElem?_eq_getElem]
    · have := heap_alloc_new (W.alloc (.cells #[.int .i64 x1, .int .i64 x2] 36)) (.cells #[.int .i64 y1, .int .i64 y2] 36)
      rw [World.size_alloc] at this
      exact this
  case body =>
    rintro lY pre ⟨⟨⟨x1, x2⟩, ⟨y1, y2⟩⟩, hx⟩ a' W hl _ ⟨hS, hGW, hZ⟩ ⟨B1, B2, hb1, hb2, ⟨hT1, hT2⟩, rfl⟩ hlt
    have bd := areaS_bd pre
    have SN := Lib.hid (areaS_snoc (pre.map (fun x : PP => x.1)) (⟨x1, x2⟩, ⟨y1, y2⟩))
    obtain ⟨g1, g2, g3, g4, g5, g6, g7, g8⟩ := hx
    dsimp only at g1 g2 g3 g4 g5 g6 g7 g8 hT1 hT2
    have m1 := mul_bdA ⟨g2, g1⟩ ⟨g8, g7⟩
    have m2 := mul_bdA ⟨g6, g5⟩ ⟨g4, g3⟩
    dsimp only [crossT] at SN
    generalize areaS (pre.map fun x : PP => x.1) = S0 at *
    have c1 := cell_of_row W B1 0 _ _ (0, 0) hT1
    have c2 := cell_of_row W B1 1 _ _ (0, 0) hT1
    have c3 := cell_of_row W B2 0 _ _ (0, 0) hT2
    have c4 := cell_of_row W B2 1 _ _ (0, 0) hT2
    unfold Pt.cells at c1 c2 c3 c4
    have c5 := cell_of_one hS
    have c6 := free_of_one hS
    have HS := Lib.hid hS
    clear hS hT1 hT2
    gi_wp2
    refine ⟨(KeepsOthers.setCell _ _ _).from _, ⟨(Below.refl _ W).setCell (p := ⟨w1.heap.size, 0, none⟩) hws _, by simp [World.setCell, Array.getElem?_modify]⟩, ⟨?_, hGW.setCell (p := ⟨w1.heap.size, 0, none⟩) hws _, by rw [size_setCell]; omega⟩⟩
    rw [List.map_append]
    show _ = some (Obj.cells #[.int .i64 (areaS (pre.map (fun x : PP => x.1) ++ [(⟨x1, x2⟩, ⟨y1, y2⟩)]))] 3 (0, 0))
    rw [SN.out]
    exact blk_setA HS.out 0 _
  case done =>
    rintro D xs W hD hxs ⟨hS, hGW, hZ⟩ hK
    have cS := cell_of_one hS
    have HX := Lib.hid hxs
    clear hxs hS
    gi_wp2
    refine ⟨by simp, .inl ⟨_, _, rfl, run_takeDeferred hK, ?_⟩⟩
    refine ⟨.tuple #[.int .i64 (areaS (xs.map (fun x : PP => x.1))), .bool true], by simp [results, go_sem], by rw [HX.out]; rfl, hGW.trans (belowK_b (w := w) (Nat.le_refl _) W D _ _ (by have := hG.size; omega) hK rfl rfl)⟩
  case stop =>
    rintro D c pre W _ _ h _
    exact h.elim

set_option maxRecDepth 100000 in
set_option maxHeartbeats 1000000 in
theorem area_any (l : List Pt) (v : Value) (S : Nat → Prop) (w : World) (hb : Rd w S 2 v l.length (Pts l)) {R : Ending → World → Prop}
    (hR : ∀ w', Grow w w' → R (.returned (.tuple #[.int .i64 (if rightL l = true then areaOf l else 0), .bool (rightL l)])) w') :
    Calls Try.prog 32 #[v] w R := by
  cases hr : rightL l with
  | true =>
    rw [hr, if_pos rfl] at hR
    refine (callsIn_wide.1 (area_in l v S w hb hr)).mono ?_
    rintro e W' ⟨rfl, hg⟩
    exact hR _ hg
  | false =>
    rw [hr] at hR
    have HR := Lib.hid hR
    have HW := Lib.hid fun (R : Ending → World → Prop) hR => wright_any l v S w hb (R := R) hR
    rw [hr] at HW
    clear hr hR hb
    go_enter Try.func32, Try.ntmps32
    go_wp2_with (go_at_call 43; refine HW.out _ ?_; intro w1 hg1)
    exact HR.out _ hg1
end Go.Proofs.Ytfdjdfobhkmlpaa
