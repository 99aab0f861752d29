import Derived.Test.YthgibnmnjoniiaaArea
import Derived.Test.YthgibnmnjoniiaaHeld
namespace Go.Proofs.Ythgibnmnjoniiaa
open Go.RowKit B

def sgnI (n : Int) : Int := if n < 0 then -1 else if 0 < n then 1 else 0
def cmpI (a b : Int) : Int := if a < b then -1 else if b < a then 1 else 0

set_option maxRecDepth 100000 in
set_option maxHeartbeats 1000000 in
theorem cmpInt_any (a b : Int) (w : World) {R : Ending → World → Prop} (hR : R (.returned (.int .i64 (cmpI a b))) w) :
    Calls Try.prog 80 #[.int .i64 a, .int .i64 b] w R := by
  have HR1 : ∀ n, cmpI a b = n → R (.returned (.int .i64 n)) w := by rintro n rfl; exact hR
  have HR := Lib.hid HR1
  clear hR HR1
  by_cases h1 : a < b
  · go_enter Try.func80, Try.ntmps80
    go_wp2
    exact HR.out _ (by unfold cmpI; rw [if_pos h1])
  · by_cases h2 : b < a
    · go_enter Try.func80, Try.ntmps80
      go_wp2
      exact HR.out _ (by unfold cmpI; rw [if_neg (by omega), if_pos h2])
    · go_enter Try.func80, Try.ntmps80
      go_wp2
      exact HR.out _ (by unfold cmpI; rw [if_neg (by omega), if_neg (by omega)])
theorem cmpI_zero (n : Int) : cmpI n 0 = sgnI n := rfl

def areaV (l : List Pt) : Int := if rightL l = true then areaOf l else 0

set_option maxRecDepth 100000 in
set_option maxHeartbeats 1000000 in
theorem wsign_any (l : List Pt) (v : Value) (S : Nat → Prop) (w : World) (hb : Rd w S 2 v l.length (Pts l)) {R : Ending → World → Prop}
    (hR : ∀ w', Grow w w' → R (.returned (.int .i64 (sgnI (areaV l)))) w') :
    Calls Try.prog 32 #[v] w R := by
  have HR := Lib.hid hR
  have HA := Lib.hid fun (R : Ending → World → Prop) hR => area_any l v S w hb (R := R) hR
  have HC := Lib.hid fun W (R : Ending → World → Prop) hR => cmpInt_any (areaV l) 0 W (R := R) hR
  rw [cmpI_zero] at HC
  change Hid (∀ (R : Ending → World → Prop), (∀ w', Grow w w' → R (.returned (.tuple #[.int .i64 (areaV l), .bool (rightL l)])) w') → Calls Try.prog 30 #[v] w R) at HA
  clear hR hb
  generalize sgnI (areaV l) = s at *
  generalize areaV l = n at *
  generalize rightL l = b at *
  go_enter Try.func32, Try.ntmps32
  go_wp2_with fail
  refine HA.out _ ?_
  intro w1 hg1
  go_wp2_with fail
  refine HC.out _ _ ?_
  go_wp2
  exact HR.out _ hg1

/-- what the reference adds up: as far as place k -/
def sumA (l : List Pt) (k : Nat) : Int := areaS ((edgesL l).take k)
def sumP (f : Pt × Pt → Int) : List (Pt × Pt) → Int
  | [] => 0
  | x :: l => f x + sumP f l
theorem sumP_snoc (f : Pt × Pt → Int) (l : List (Pt × Pt)) (x : Pt × Pt) : sumP f (l ++ [x]) = sumP f l + f x := by
  induction l with
  | nil => simp [sumP]
  | cons y l ih => simp only [List.cons_append, sumP, ih]; omega
theorem areaS_split (l : List (Pt × Pt)) : areaS l = sumP (fun x => x.1.x * x.2.y) l - sumP (fun x => x.2.x * x.1.y) l := by
  induction l with
  | nil => rfl
  | cons x l ih => simp only [areaS, sumP, crossT, ih]; omega
theorem sumP_bd (f : Pt × Pt → Int) : ∀ l : List (Pt × Pt), (∀ x ∈ l, -4398046511104 ≤ f x ∧ f x ≤ 4398046511104) → -(4398046511104 * (l.length : Int)) ≤ sumP f l ∧ sumP f l ≤ 4398046511104 * (l.length : Int)
  | [], _ => by simp [sumP]
  | x :: l, h => by
    have ih := sumP_bd f l (fun y hy => h y (List.mem_cons_of_mem _ hy))
    have hx := h x (List.mem_cons_self ..)
    simp only [sumP, List.length_cons]
    generalize sumP f l = s at *
    omega
theorem edgesL_in {l : List Pt} (h : ∀ p ∈ l, (-2097152 ≤ p.x ∧ p.x ≤ 2097152) ∧ -2097152 ≤ p.y ∧ p.y ≤ 2097152) : ∀ x ∈ edgesL l, ((-2097152 ≤ x.1.x ∧ x.1.x ≤ 2097152) ∧ -2097152 ≤ x.1.y ∧ x.1.y ≤ 2097152) ∧ (-2097152 ≤ x.2.x ∧ x.2.x ≤ 2097152) ∧ -2097152 ≤ x.2.y ∧ x.2.y ≤ 2097152 := by
  intro x hx
  obtain ⟨i, hi, rfl⟩ := List.getElem_of_mem hx
  rw [edgesL_len] at hi
  rw [edgesL_at hi]
  exact ⟨h _ (List.getElem_mem hi), h _ (List.getElem_mem (Nat.mod_lt (i + 1) (show 0 < l.length by omega)))⟩

set_option maxRecDepth 100000 in
set_option maxHeartbeats 4000000 in
theorem rarea_any (l : List Pt) (v : Value) (S : Nat → Prop) (w : World) (hb : Rd w S 2 v l.length (Pts l)) {R : Ending → World → Prop}
    (hR : ∀ w', Grow w w' → R (.returned (.tuple #[.int .i64 (areaV l), .bool (rightL l)])) w') :
    Calls Try.prog 31 #[v] w R := by
  have hb := hb.lt (by decide)
  have HW := Lib.hid fun (R : Ending → World → Prop) hR => rright27_any l v _ w hb (R := R) hR
  cases hr : rightL l with
  | false =>
    rw [hr] at hR HW
    have hv : areaV l = 0 := by simp [areaV, hr]
    rw [hv] at hR
    have HR := Lib.hid hR
    clear hr hR hb hv
    go_enter Try.func31, Try.ntmps31
    go_wp2_with (go_at_call 76; refine HW.out _ ?_; intro w1 hg1)
    exact HR.out _ hg1
  | true =>
    rw [hr] at hR HW
    have hv : areaV l = areaOf l := by simp [areaV, hr]
    rw [hv] at hR
    have HR := Lib.hid hR
    have hlen : l.length ≤ 262144 := by simp [rightL] at hr; exact hr.1
    have hin : ∀ p ∈ l, (-2097152 ≤ p.x ∧ p.x ≤ 2097152) ∧ -2097152 ≤ p.y ∧ p.y ≤ 2097152 := by
      intro p hp
      simp only [rightL, Bool.and_eq_true, List.all_eq_true] at hr
      exact Pt.inr_iff.1 (hr.2 p hp)
    have HE := Lib.hid (edgesL_in hin)
    clear hr hR hv hin
    obtain ⟨_, A, c, rfl, k1, k2, -, k4⟩ := hb
    unfold maxLen at k2
    go_enter Try.func31, Try.ntmps31
    go_wp2_with (go_at_call 76; refine HW.out _ ?_; intro w1 hg1; have G1 := Lib.hid hg1; clear hg1)
    go_loopw [6, 4, 5] (fun i sa sb wr => ∃ (k : Nat) (x y : Int), k ≤ l.length ∧ i = .int .i64 k ∧ sa = .int .i64 x ∧ sb = .int .i64 y ∧ Hid (x = sumP (fun x => x.1.x * x.2.y) ((edgesL l).take k) ∧ y = sumP (fun x => x.2.x * x.1.y) ((edgesL l).take k)) ∧ (-(4398046511104 * (k : Int)) ≤ x ∧ x ≤ 4398046511104 * (k : Int)) ∧ (-(4398046511104 * (k : Int)) ≤ y ∧ y ≤ 4398046511104 * (k : Int)) ∧ Hid (Grow w wr)) (fun i _ _ _ => l.length - (intOf i).toNat)
    case atStart => exact ⟨0, 0, 0, Nat.zero_le _, rfl, rfl, rfl, ⟨rfl, rfl⟩, by omega, by omega, G1.out⟩
    case round =>
      obtain ⟨k, sx, sy, hk, rfl, rfl, rfl, hs, hbx, hby, hg⟩ := hrel
      by_cases hlt : k < l.length
      · obtain ⟨b, o, rfl, hS, hc⟩ := k4 (by omega)
        have hm : (k + 1) % l.length < l.length := Nat.mod_lt _ (by omega)
        have h0 : 0 < l.length := by omega
        have LT : b < wr.heap.size := Nat.lt_of_lt_of_le hS hg.out.size
        have e1 := fun W (h : Grow wr W) => flat_cells Pt.cells_len (hg.out.tr h) hS hc hlt
        have e2 := fun W (h : Grow wr W) => flat_cells Pt.cells_len (hg.out.tr h) hS hc h0
        have EN : Hid ((k + 1 < l.length → (k + 1) % l.length = k + 1) ∧ (¬ k + 1 < l.length → (k + 1) % l.length = 0)) := ⟨fun h => Nat.mod_eq_of_lt h, fun h => by rw [show k + 1 = l.length by omega]; exact Nat.mod_self _⟩
        have HED : Hid ((edgesL l).take (k + 1) = (edgesL l).take k ++ [(l[k]'hlt, l[(k + 1) % l.length]'hm)]) := by
          show _ = _
          rw [List.take_succ_eq_append_getElem (by rw [edgesL_len]; exact hlt), edgesL_at hlt]
        have HIN := HE.out (l[k]'hlt, l[(k + 1) % l.length]'hm) (by rw [← edgesL_at hlt]; exact List.getElem_mem _)
        have e3 := fun (h1 : k + 1 < l.length) W (h : Grow wr W) => flat_cells Pt.cells_len (hg.out.tr h) hS hc h1
        have HQ : Hid ((∀ h1 : k + 1 < l.length, l[(k + 1) % l.length]'hm = l[k + 1]'h1) ∧ (¬ k + 1 < l.length → l[(k + 1) % l.length]'hm = l[0]'h0)) := by
          refine ⟨fun h1 => ?_, fun h1 => ?_⟩
          · have := EN.out.1 h1
            simp only [this]
          · have := EN.out.2 h1
            simp only [this]
        clear k4 hc EN
        generalize l[(k + 1) % l.length]'hm = q at *
        generalize hpp : l[k]'hlt = p at *
        generalize hzz : l[0]'h0 = z at *
        obtain ⟨p1, p2⟩ := p
        obtain ⟨z1, z2⟩ := z
        obtain ⟨q1, q2⟩ := q
        have C1 : Hid (∀ W, Grow wr W → W.cell? ⟨b, o + k * 2, none⟩ = some (.int .i64 p1) ∧ W.cell? ⟨b, o + k * 2 + 1, none⟩ = some (.int .i64 p2)) := fun W h => ⟨e1 W h 0 _ rfl, e1 W h 1 _ rfl⟩
        have C2 : Hid (∀ W, Grow wr W → W.cell? ⟨b, o, none⟩ = some (.int .i64 z1) ∧ W.cell? ⟨b, o + 1, none⟩ = some (.int .i64 z2)) := fun W h => ⟨by have := e2 W h 0 _ rfl; simpa using this, by have := e2 W h 1 _ rfl; simpa using this⟩
        have C3 : Hid (k + 1 < l.length → ∀ W, Grow wr W → W.cell? ⟨b, o + (k + 1) * 2, none⟩ = some (.int .i64 q1) ∧ W.cell? ⟨b, o + (k + 1) * 2 + 1, none⟩ = some (.int .i64 q2)) := fun h1 W h => by
          have := e3 h1
          rw [← HQ.out.1 h1] at this
          exact ⟨this W h 0 _ rfl, this W h 1 _ rfl⟩
        have HZ : Hid (¬ k + 1 < l.length → z1 = q1 ∧ z2 = q2) := fun h1 => by
          have := HQ.out.2 h1
          injection this with a b
          exact ⟨a.symm, b.symm⟩
        clear e1 e2 e3 HQ
        have hl0 : (0 : Int) < l.length := by omega
        obtain ⟨⟨⟨g1, g2⟩, g3, g4⟩, ⟨g5, g6⟩, g7, g8⟩ := HIN
        dsimp only at g1 g2 g3 g4 g5 g6 g7 g8
        have m1 := mul_bd ⟨g1, g2⟩ ⟨g7, g8⟩
        have m2 := mul_bd ⟨g5, g6⟩ ⟨g3, g4⟩
        have HNX : Hid ((sx + p1 * q2 = sumP (fun x => x.1.x * x.2.y) ((edgesL l).take (k + 1))) ∧ sy + q1 * p2 = sumP (fun x => x.2.x * x.1.y) ((edgesL l).take (k + 1))) := by
          rw [HED.out, sumP_snoc, sumP_snoc, ← hs.out.1, ← hs.out.2]
          exact ⟨rfl, rfl⟩
        clear hs HED
        go_wp2
        refine wp_region_heldW (Grow wr) (by kernel_rfl) 11 rfl ?_
        apply held_take (i := 0); exact rfl; exact rfl; kernel_rfl; (intro W hW; (try clear hW); go_simp; with_reducible rfl); try simp only [Act.put, List.setIfInBounds_toArray, List.set_cons_zero, List.set_cons_succ]
        apply held_take (i := 1); exact rfl; exact rfl; kernel_rfl; (intro W hW; (try clear hW); go_simp; with_reducible rfl); try simp only [Act.put, List.setIfInBounds_toArray, List.set_cons_zero, List.set_cons_succ]
        apply held_take (i := 2); exact rfl; exact rfl; kernel_rfl; (intro W hW; (try clear hW); go_simp; with_reducible rfl); try simp only [Act.put, List.setIfInBounds_toArray, List.set_cons_zero, List.set_cons_succ]
        apply held_take (i := 3); exact rfl; exact rfl; kernel_rfl; (intro W hW; obtain ⟨y1, y2⟩ := C1.out W hW; (try clear hW); go_simp; with_reducible rfl); try simp only [Act.put, List.setIfInBounds_toArray, List.set_cons_zero, List.set_cons_succ]
        apply held_take (i := 4); exact rfl; exact rfl; kernel_rfl; (intro W hW; (try clear hW); go_simp; with_reducible rfl); try simp only [Act.put, List.setIfInBounds_toArray, List.set_cons_zero, List.set_cons_succ]
        apply held_take (i := 5); exact rfl; exact rfl; kernel_rfl; (intro W hW; (try clear hW); go_simp; with_reducible rfl); try simp only [Act.put, List.setIfInBounds_toArray, List.set_cons_zero, List.set_cons_succ]
        apply held_take (i := 6); exact rfl; exact rfl; kernel_rfl; (intro W hW; obtain ⟨y1, y2⟩ := C2.out W hW; (try clear hW); go_simp; with_reducible rfl); try simp only [Act.put, List.setIfInBounds_toArray, List.set_cons_zero, List.set_cons_succ]
        refine held_all (rs := [7, 8]) (by intro c a d v w h; cases d <;> exact h) (Grow.refl _).dr (by kernel_rfl) rfl ?_
        intro i hi
        rcases List.mem_cons.1 hi with rfl | hi
        · clear hi
          apply held_turn; exact rfl; exact rfl; intro K hK; go_simp; refine hK.out _ _ ?_; clear hK; try simp only [Act.put, List.setIfInBounds_toArray, List.set_cons_zero, List.set_cons_succ]
          refine held_all (rs := [8]) (by intro c a d v w h; cases d <;> exact h) (((Grow.refl wr).al _).dr) (by kernel_rfl) rfl ?_; intro i hi; obtain rfl := List.mem_singleton.1 hi; clear hi
          apply held_turn; exact rfl; exact rfl; intro K hK; go_simp; refine hK.out _ _ ?_; clear hK; try simp only [Act.put, List.setIfInBounds_toArray, List.set_cons_zero, List.set_cons_succ]
          refine held_all (rs := [9]) (by intro c a d v w h; cases d <;> exact h) ((((Grow.refl wr).al _).al _).dr) (by kernel_rfl) rfl ?_; intro i hi; obtain rfl := List.mem_singleton.1 hi; clear hi
          apply held_turn; exact rfl; exact rfl; intro K hK; go_simp; refine hK.out _ _ ?_; clear hK; try simp only [Act.put, List.setIfInBounds_toArray, List.set_cons_zero, List.set_cons_succ]
          refine held_all (rs := [10]) (by intro c a d v w h; cases d <;> exact h) ((((Grow.refl wr).al _).al _).dr) (by kernel_rfl) rfl ?_; intro i hi; obtain rfl := List.mem_singleton.1 hi; clear hi
          apply held_turn; exact rfl; exact rfl; intro K hK; go_simp; refine hK.out _ _ ?_; clear hK; try simp only [Act.put, List.setIfInBounds_toArray, List.set_cons_zero, List.set_cons_succ]
          refine held_done (by intro c a d v w h; cases d <;> exact h) ((((Grow.refl wr).al _).al _).dr) (by kernel_rfl) ?_
          have HB7 : Hid ((((wr.alloc (.cells #[.int .i64 p1, .int .i64 p2] 24)).alloc (.cells #[.int .i64 z1, .int .i64 z2] 24)).drew).heap[wr.heap.size]? = some (.cells #[.int .i64 p1, .int .i64 p2] 24 (0, 0))) := (blk_al (heap_alloc_new _ _) _)
          have HB8 : Hid ((((wr.alloc (.cells #[.int .i64 p1, .int .i64 p2] 24)).alloc (.cells #[.int .i64 z1, .int .i64 z2] 24)).drew).heap[(wr.heap.size + 1)]? = some (.cells #[.int .i64 z1, .int .i64 z2] 24 (0, 0))) := (by have := heap_alloc_new (wr.alloc (.cells #[.int .i64 p1, .int .i64 p2] 24)) (.cells #[.int .i64 z1, .int .i64 z2] 24); rw [World.size_alloc] at this; exact this)
          have GW : Hid (Grow wr (((wr.alloc (.cells #[.int .i64 p1, .int .i64 p2] 24)).alloc (.cells #[.int .i64 z1, .int .i64 z2] 24)).drew)) := (((Grow.refl wr).al _).al _).dr
          generalize ((wr.alloc (.cells #[.int .i64 p1, .int .i64 p2] 24)).alloc (.cells #[.int .i64 z1, .int .i64 z2] 24)).drew = W at *
          by_cases h1 : k + 1 < l.length
          · obtain ⟨r1, r2⟩ := C3.out h1 W GW.out
            have n1 := cell_of_row W (wr.heap.size + 1) 0 _ _ (0, 0) HB8.out
            have n2 := cell_of_row W (wr.heap.size + 1) 1 _ _ (0, 0) HB8.out
            have n3 := frozen_of_row W (wr.heap.size + 1) 0 _ _ HB8.out
            have n4 := frozen_of_row W (wr.heap.size + 1) 1 _ _ HB8.out
            have B8' := blk_set (blk_set HB8.out 0 (.int .i64 q1)) 1 (.int .i64 q2)
            have B7' := blk_ne (blk_ne HB7.out (C := (wr.heap.size + 1)) (by omega) 0 (.int .i64 q1)) (C := (wr.heap.size + 1)) (by omega) 1 (.int .i64 q2)
            have o1 := cell_of_row _ (wr.heap.size + 1) 0 _ _ (0, 0) B8'
            have o2 := cell_of_row _ (wr.heap.size + 1) 1 _ _ (0, 0) B8'
            have o3 := cell_of_row _ wr.heap.size 0 _ _ (0, 0) B7'
            have o4 := cell_of_row _ wr.heap.size 1 _ _ (0, 0) B7'
            clear B8' B7'
            go_wp2
            go_roundw
            case rel => exact ⟨k + 1, sx + p1 * q2, sy + q1 * p2, by omega, by go_num, rfl, rfl, HNX.out, by omega, by omega, hg.out.tr ((GW.out.set (p := ⟨(wr.heap.size + 1), 0, none⟩) (by show _ ≤ (wr.heap.size + 1); omega) _).set (p := ⟨(wr.heap.size + 1), 1, none⟩) (by show _ ≤ (wr.heap.size + 1); omega) _)⟩
            case measure => simp [intOf]; omega
          · obtain ⟨rfl, rfl⟩ := HZ.out h1
            have o1 := cell_of_row W (wr.heap.size + 1) 0 _ _ (0, 0) HB8.out
            have o2 := cell_of_row W (wr.heap.size + 1) 1 _ _ (0, 0) HB8.out
            have o3 := cell_of_row W wr.heap.size 0 _ _ (0, 0) HB7.out
            have o4 := cell_of_row W wr.heap.size 1 _ _ (0, 0) HB7.out
            go_wp2
            go_roundw
            case rel => exact ⟨k + 1, sx + p1 * z2, sy + z1 * p2, by omega, by go_num, rfl, rfl, HNX.out, by omega, by omega, hg.out.tr GW.out⟩
            case measure => simp [intOf]; omega
        · obtain rfl := List.mem_singleton.1 hi
          clear hi
          apply held_turn; exact rfl; exact rfl; intro K hK; go_simp; refine hK.out _ _ ?_; clear hK; try simp only [Act.put, List.setIfInBounds_toArray, List.set_cons_zero, List.set_cons_succ]
          refine held_all (rs := [7]) (by intro c a d v w h; cases d <;> exact h) (((Grow.refl wr).al _).dr) (by kernel_rfl) rfl ?_; intro i hi; obtain rfl := List.mem_singleton.1 hi; clear hi
          apply held_turn; exact rfl; exact rfl; intro K hK; go_simp; refine hK.out _ _ ?_; clear hK; try simp only [Act.put, List.setIfInBounds_toArray, List.set_cons_zero, List.set_cons_succ]
          refine held_all (rs := [9]) (by intro c a d v w h; cases d <;> exact h) ((((Grow.refl wr).al _).al _).dr) (by kernel_rfl) rfl ?_; intro i hi; obtain rfl := List.mem_singleton.1 hi; clear hi
          apply held_turn; exact rfl; exact rfl; intro K hK; go_simp; refine hK.out _ _ ?_; clear hK; try simp only [Act.put, List.setIfInBounds_toArray, List.set_cons_zero, List.set_cons_succ]
          refine held_all (rs := [10]) (by intro c a d v w h; cases d <;> exact h) ((((Grow.refl wr).al _).al _).dr) (by kernel_rfl) rfl ?_; intro i hi; obtain rfl := List.mem_singleton.1 hi; clear hi
          apply held_turn; exact rfl; exact rfl; intro K hK; go_simp; refine hK.out _ _ ?_; clear hK; try simp only [Act.put, List.setIfInBounds_toArray, List.set_cons_zero, List.set_cons_succ]
          refine held_done (by intro c a d v w h; cases d <;> exact h) ((((Grow.refl wr).al _).al _).dr) (by kernel_rfl) ?_
          have HB7 : Hid ((((wr.alloc (.cells #[.int .i64 z1, .int .i64 z2] 24)).alloc (.cells #[.int .i64 p1, .int .i64 p2] 24)).drew).heap[(wr.heap.size + 1)]? = some (.cells #[.int .i64 p1, .int .i64 p2] 24 (0, 0))) := (by have := heap_alloc_new (wr.alloc (.cells #[.int .i64 z1, .int .i64 z2] 24)) (.cells #[.int .i64 p1, .int .i64 p2] 24); rw [World.size_alloc] at this; exact this)
          have HB8 : Hid ((((wr.alloc (.cells #[.int .i64 z1, .int .i64 z2] 24)).alloc (.cells #[.int .i64 p1, .int .i64 p2] 24)).drew).heap[wr.heap.size]? = some (.cells #[.int .i64 z1, .int .i64 z2] 24 (0, 0))) := (blk_al (heap_alloc_new _ _) _)
          have GW : Hid (Grow wr (((wr.alloc (.cells #[.int .i64 z1, .int .i64 z2] 24)).alloc (.cells #[.int .i64 p1, .int .i64 p2] 24)).drew)) := (((Grow.refl wr).al _).al _).dr
          generalize ((wr.alloc (.cells #[.int .i64 z1, .int .i64 z2] 24)).alloc (.cells #[.int .i64 p1, .int .i64 p2] 24)).drew = W at *
          by_cases h1 : k + 1 < l.length
          · obtain ⟨r1, r2⟩ := C3.out h1 W GW.out
            have n1 := cell_of_row W wr.heap.size 0 _ _ (0, 0) HB8.out
            have n2 := cell_of_row W wr.heap.size 1 _ _ (0, 0) HB8.out
            have n3 := frozen_of_row W wr.heap.size 0 _ _ HB8.out
            have n4 := frozen_of_row W wr.heap.size 1 _ _ HB8.out
            have B8' := blk_set (blk_set HB8.out 0 (.int .i64 q1)) 1 (.int .i64 q2)
            have B7' := blk_ne (blk_ne HB7.out (C := wr.heap.size) (by omega) 0 (.int .i64 q1)) (C := wr.heap.size) (by omega) 1 (.int .i64 q2)
            have o1 := cell_of_row _ wr.heap.size 0 _ _ (0, 0) B8'
            have o2 := cell_of_row _ wr.heap.size 1 _ _ (0, 0) B8'
            have o3 := cell_of_row _ (wr.heap.size + 1) 0 _ _ (0, 0) B7'
            have o4 := cell_of_row _ (wr.heap.size + 1) 1 _ _ (0, 0) B7'
            clear B8' B7'
            go_wp2
            go_roundw
            case rel => exact ⟨k + 1, sx + p1 * q2, sy + q1 * p2, by omega, by go_num, rfl, rfl, HNX.out, by omega, by omega, hg.out.tr ((GW.out.set (p := ⟨wr.heap.size, 0, none⟩) (by show _ ≤ wr.heap.size; omega) _).set (p := ⟨wr.heap.size, 1, none⟩) (by show _ ≤ wr.heap.size; omega) _)⟩
            case measure => simp [intOf]; omega
          · obtain ⟨rfl, rfl⟩ := HZ.out h1
            have o1 := cell_of_row W wr.heap.size 0 _ _ (0, 0) HB8.out
            have o2 := cell_of_row W wr.heap.size 1 _ _ (0, 0) HB8.out
            have o3 := cell_of_row W (wr.heap.size + 1) 0 _ _ (0, 0) HB7.out
            have o4 := cell_of_row W (wr.heap.size + 1) 1 _ _ (0, 0) HB7.out
            go_wp2
            go_roundw
            case rel => exact ⟨k + 1, sx + p1 * z2, sy + z1 * p2, by omega, by go_num, rfl, rfl, HNX.out, by omega, by omega, hg.out.tr GW.out⟩
            case measure => simp [intOf]; omega
      · obtain rfl : k = l.length := by omega
        have hs2 := hs.out
        rw [List.take_of_length_le (by rw [edgesL_len]; exact Nat.le_refl _)] at hs2
        have HS := Lib.hid hs2
        clear hs2 hs k4
        go_wp2
        have h := HR.out _ hg.out
        rw [areaOf, areaS_split, ← HS.out.1, ← HS.out.2] at h
        exact h
end Go.Proofs.Ythgibnmnjoniiaa
