import Derived.Test.YteeeeddeacepmaaGreatDoorRngA
namespace Go.Proofs.YteeeeddeacepmaaGreatDoor
set_option maxRecDepth 100000
open Go.RowKit B
def wholeSpot (p : Pt) : Spot := ⟨⟨p.x, 0, 1⟩, ⟨p.y, 0, 1⟩⟩
def stN (p q : Pt) : List Node := [⟨wholeSpot p, p, q, false⟩]
def halves (lo hi : Int) : List Hf := [⟨lo, false, true⟩, ⟨hi, false, false⟩, ⟨lo, true, true⟩, ⟨hi, true, false⟩]
def ringTo (l : List Pt) (lo hi : Int) (k : Nat) : List Node := ((halves lo hi).take k).foldl (fun ns h => h.clip ns) (cycTo stN l l.length)
def ringS (l : List Pt) (lo hi : Int) : List Spot := (ringTo l lo hi 4).map Node.s
def ringR (l : List Pt) (lo hi : Int) : List Spot := if lineE l lo hi = 0 then ringS l lo hi else []
theorem Spots_app (l m : List Spot) : Spots (l ++ m) = Spots l ++ Spots m := List.flatMap_append
theorem el_spot : Elem Tryz.prog 46 53 (.agg #[.int .i64 0, .int .u64 0, .int .u64 0, .int .i64 0, .int .u64 0, .int .u64 0]) 6 48 := ⟨by kernel_rfl, by kernel_rfl, rfl, by decide, by decide⟩
theorem cycTo_len1 (l : List Pt) : ∀ k, k <= l.length -> (cycTo stN l k).length = k
 | 0, _ => rfl
 | k + 1, h => by
  rw [cycTo_succ _ _ _ (by omega) (Nat.mod_lt _ (by omega)), List.length_append, cycTo_len1 l k (by omega)]; rfl
theorem mem_cyc {α β : Type} {f : α -> α -> List β} {l : List α} {k : Nat} {x : β} (h : x ∈ cycTo f l k) : ∃ a ∈ l, ∃ b ∈ l, x ∈ f a b := by
 unfold cycTo at h; obtain ⟨i, _, hi⟩ := List.mem_flatMap.1 h; unfold cycAt at hi
 split at hi
 ·rename_i n m h1 h2
  exact ⟨n, List.mem_of_getElem? h1, m, List.mem_of_getElem? h2, hi⟩
 ·simp at hi
theorem wholeSpot_ok {p : Pt} (h : p.ok) : (wholeSpot p).ok := by
 obtain ⟨⟨h1, h2⟩, h3, h4⟩ := h; exact ⟨⟨h1, h2, by show (0 : Nat) < _; decide, by show (1 : Nat) < _; decide⟩, ⟨h3, h4, by show (0 : Nat) < _; decide, by show (1 : Nat) < _; decide⟩⟩
theorem whole_ok {c : Int} (h : I64 c) : (Fr.mk c 0 1).ok := ⟨h.1, h.2, by show (0 : Nat) < _; decide, by show (1 : Nat) < _; decide⟩
theorem Hf.cross_ok {h : Hf} {n : Node} (hc : I64 h.c) (hn : n.s.ok) : (h.cross n).ok := by
 unfold Hf.cross
 split
 ·refine ⟨?_, whole_ok hc⟩
  split
  ·exact hn.1
  ·exact crossS_ok _ _ _ _
 ·refine ⟨whole_ok hc, ?_⟩
  dsimp only
  split
  ·exact hn.2
  ·exact crossS_ok _ _ _ _
theorem Hf.clip_ok {h : Hf} {l : List Node} (hc : I64 h.c) (hl : ∀ n ∈ l, n.s.ok) : ∀ n ∈ h.clip l, n.s.ok := by
 intro n hn; obtain ⟨a, ha, b, hb, hx⟩ := mem_cyc hn; unfold Hf.clip1 at hx; rcases List.mem_append.1 hx with hx | hx
 ·split at hx
  ·rw [List.mem_singleton.1 hx]; exact hl a ha
  ·simp at hx
 ·split at hx <;> split at hx
  ·simp at hx
  ·rw [List.mem_singleton.1 hx]; exact Hf.cross_ok hc (hl a ha)
  ·rw [List.mem_singleton.1 hx]; exact Hf.cross_ok hc (hl a ha)
  ·simp at hx
theorem ringTo_succ (l : List Pt) (lo hi : Int) (k : Nat) (h : k < 4) : ringTo l lo hi (k + 1) = ((halves lo hi)[k]'h).clip (ringTo l lo hi k) := by
 unfold ringTo; rw [List.take_succ_eq_append_getElem (show k < (halves lo hi).length from h), List.foldl_append]; rfl
theorem ringTo_ok {l : List Pt} {lo hi : Int} (hlo : I64 lo) (hhi : I64 hi) (hl : ∀ p ∈ l, p.ok) : ∀ k, k <= 4 -> (∀ n ∈ ringTo l lo hi k, n.s.ok) /\ (ringTo l lo hi k).length <= 2 ^ k * l.length
 | 0, _ => by
  constructor
  ·intro n hn
   obtain ⟨a, ha, b, hb, hx⟩ := mem_cyc (show n ∈ cycTo stN l l.length from hn); rw [List.mem_singleton.1 hx]; exact wholeSpot_ok (hl a ha)
  ·show (cycTo stN l l.length).length <= _
   rw [cycTo_len1 l _ (Nat.le_refl _)]; omega
 | k + 1, h => by
  obtain ⟨h1, h2⟩ := ringTo_ok hlo hhi hl k (by omega); rw [ringTo_succ l lo hi k (by omega)]
  have hc : I64 ((halves lo hi)[k]'(by show k < 4; omega)).c := by
   rcases (show k = 0 ∨ k = 1 ∨ k = 2 ∨ k = 3 by omega) with rfl | rfl | rfl | rfl <;> first | exact hlo | exact hhi
  refine ⟨Hf.clip_ok hc h1, ?_⟩; have := cycTo_len ((halves lo hi)[k]'(by show k < 4; omega)) (ringTo l lo hi k) (ringTo l lo hi k).length; unfold Hf.clip; rw [Nat.pow_succ, Nat.mul_comm (2 ^ k) 2, Nat.mul_assoc]; omega
theorem Hf.cells_len (h : Hf) : h.cells.length = 3 := rfl
theorem halves_rd (lo hi : Int) (w : World) : Rd (w.alloc (.cells #[.int .i64 lo, .bool false, .bool true, .int .i64 hi, .bool false, .bool false, .int .i64 lo, .bool true, .bool true, .int .i64 hi, .bool true, .bool false] 83)) (fun b => b = w.heap.size) 3 (.slice (some ⟨w.heap.size, 0, none⟩) 4 4) (halves lo hi).length ((halves lo hi).flatMap Hf.cells) :=
 Rd.lit w _ _ 4 (by decide) rfl
set_option maxHeartbeats 4000000 in
theorem clip25_any (l : List Pt) (lo hi : Int) (v : Value) (S : Nat -> Prop) (w : World) (hb : Rd w S 2 v l.length (Pts l)) (hl : l.length <= 1000) (hok : ∀ p ∈ l, p.ok) (hlo : I64 lo) (hhi : I64 hi) {R : Ending -> World -> Prop}
  (hR : ∀ r w', w'.ownsRow w.heap.size 53 6 r (ringR l lo hi).length (Spots (ringR l lo hi)) -> Grow w w' -> R (.returned (.tuple #[r, .int .i64 (lineE l lo hi)])) w') :
  Calls Tryz.prog 9 #[v, .int .i64 lo, .int .i64 hi] w R := by
 have HR1 : ∀ e, lineE l lo hi = e -> ∀ sp, ringR l lo hi = sp -> ∀ r w', w'.ownsRow w.heap.size 53 6 r sp.length (Spots sp) -> Grow w w' -> R (.returned (.tuple #[r, .int .i64 e])) w' := by rintro e rfl sp rfl; exact hR
 have HR := Lh HR1; clear hR HR1; have hb := hb.lt (by decide); have CF := Lh fun (R : Ending -> World -> Prop) hR => contains25_any l v _ w hb (R := R) hR
 obtain ⟨_, A, c, rfl, k1, k2, k3, k4⟩ := hb; unfold maxLen at k2; have KO := Lh fun k hk => ringTo_ok hlo hhi hok k hk
 clear hok hlo hhi
 obtain ⟨q, hq⟩ : ∃ q, decide (hi < lo) = q := ⟨_, rfl⟩
 cases q with
 | true =>
  have LE : Hid (lineE l lo hi = 1) := by show _ = _; unfold lineE; rw [if_pos (of_decide_eq_true hq)]
  have RE : Hid (ringR l lo hi = []) := by show _ = _; unfold ringR; rw [LE.out]; rfl
  go_enter Tryz.func9, Tryz.ntmps9
  go_wp2; exact HR.out _ LE.out _ RE.out _ _ (World.ownsRow_nil _ _ _ _) (Grow.refl _)
 | false =>
  have LE : Hid (lineE l lo hi = if (!inw lo || !inw hi || l.any Pt.far) = true then 8 else 0) := by show _ = _; unfold lineE; rw [if_neg (of_decide_eq_false hq)]
  have F1 := Lh fun W (R : Ending -> World -> Prop) hR => far25_any lo W (R := R) hR
  have F2 := Lh fun W (R : Ending -> World -> Prop) hR => far25_any hi W (R := R) hR
  obtain ⟨b1, h1⟩ : ∃ b, inw lo = b := ⟨_, rfl⟩
  obtain ⟨b2, h2⟩ : ∃ b, inw hi = b := ⟨_, rfl⟩
  obtain ⟨b3, h3⟩ : ∃ b, l.any Pt.far = b := ⟨_, rfl⟩
  rw [h1, h2, h3] at LE; rw [h1] at F1; rw [h2] at F2; rw [h3] at CF; clear h1 h2 h3
  cases b1 with
  | false =>
   have LE8 : Hid (lineE l lo hi = 8) := by show _ = _; rw [LE.out]; rfl
   have RE : Hid (ringR l lo hi = []) := by show _ = _; unfold ringR; rw [LE8.out]; rfl
   go_enter Tryz.func9, Tryz.ntmps9
   go_wp2_with fail
   go_at_call 23; refine F1.out _ _ ?_; go_wp2; exact HR.out _ LE8.out _ RE.out _ _ (World.ownsRow_nil _ _ _ _) (Grow.refl _)
  | true =>
   cases b2 with
   | false =>
    have LE8 : Hid (lineE l lo hi = 8) := by show _ = _; rw [LE.out]; rfl
    have RE : Hid (ringR l lo hi = []) := by show _ = _; unfold ringR; rw [LE8.out]; rfl
    go_enter Tryz.func9, Tryz.ntmps9
    go_wp2_with fail
    go_at_call 23; refine F1.out _ _ ?_; go_wp2_with fail
    go_at_call 23; refine F2.out _ _ ?_; go_wp2; exact HR.out _ LE8.out _ RE.out _ _ (World.ownsRow_nil _ _ _ _) (Grow.refl _)
   | true =>
    cases b3 with
    | true =>
     have LE8 : Hid (lineE l lo hi = 8) := by show _ = _; rw [LE.out]; rfl
     have RE : Hid (ringR l lo hi = []) := by show _ = _; unfold ringR; rw [LE8.out]; rfl
     go_enter Tryz.func9, Tryz.ntmps9
     go_wp2_with fail
     go_at_call 23; refine F1.out _ _ ?_; go_wp2_with fail
     go_at_call 23; refine F2.out _ _ ?_; go_wp2_with fail
     go_at_call 24; refine CF.out _ ?_; intro w9 hg9; have G9 := Lh hg9; clear hg9; go_wp2; exact HR.out _ LE8.out _ RE.out _ _ (World.ownsRow_nil _ _ _ _) G9.out
    | false =>
     have LE0 : Hid (lineE l lo hi = 0) := by show _ = _; rw [LE.out]; rfl
     have RE : Hid (ringR l lo hi = ringS l lo hi) := by show _ = _; unfold ringR; rw [LE0.out]; rfl
     go_enter Tryz.func9, Tryz.ntmps9
     go_wp2_with fail
     clear hq; go_at_call 23; refine F1.out _ _ ?_; go_wp2_with fail
     go_at_call 23; refine F2.out _ _ ?_; go_wp2_with fail
     go_at_call 24; refine CF.out _ ?_; intro w1 hg1; have G1 := Lh hg1; clear hg1 F1 F2 CF LE; go_wp2
     go_loopw [34, 9] (fun i s wr => ∃ (k : Nat), k <= l.length /\ i = .int .i64 k /\ wr.ownsRow w.heap.size 81 11 s k (Nodes (cycTo stN l k)) /\ Hid (Grow w wr)) (fun i _ _ => l.length - (intOf i).toNat)
     case atStart => exact ⟨0, Nat.zero_le _, rfl, World.ownsRow_nil _ _ _ _, G1.out⟩
     case round =>
      obtain ⟨k, hk, rfl, hown, hg⟩ := hrel
      by_cases hlt : k < l.length
      ·obtain ⟨b, o, rfl, hS, hc⟩ := k4 (by omega)
       have hm : (k + 1) % l.length < l.length := Nat.mod_lt _ (by omega); have e0 := fun W (h : Grow w W) => flat_cells Pt.cells_len h hS hc hlt
       have e1 := fun W (h : Grow w W) => flat_cells Pt.cells_len h hS hc hm
       have CS := Lh (cycTo_succ stN l k hlt hm); have HM := Lh hm; have z4 : IntKind.i64.wrap ((k : Int) + 1) = (k : Int) + 1 := IntWalk.i64_in _ (by omega)
       have z5 : ((k : Int) + 1).tmod (l.length : Int) = (((k + 1) % l.length : Nat) : Int) := by
        rw [Int.tmod_eq_emod_of_nonneg (by omega)]; exact (Int.natCast_emod (k + 1) l.length).symm
       have z6 : ((k : Int) + 1) % (l.length : Int) = (((k + 1) % l.length : Nat) : Int) := (Int.natCast_emod (k + 1) l.length).symm; have z1 : ((l.length : Int) == 0) = false := by rw [beq_eq_false_iff_ne]; omega
       have z2 : ¬ (l.length : Int) = 0 := by omega
       have z3 : ¬ l = [] := by rintro rfl; simp at hlt
       have ZS := Lh (And.intro z4 (And.intro z5 (And.intro z6 (And.intro z1 (And.intro z2 z3))))); clear z1 z2 z3 z4 z5 z6; have HO := Lh hown; have OL := Lh fun kk hk => (hown.lt kk hk).2
       clear hc k4 k3 hown LE0 RE HR KO
       obtain ⟨m, hmm⟩ : ∃ m, (k + 1) % l.length = m := ⟨_, rfl⟩
       simp only [hmm] at *; generalize l[k] = x at *; generalize l[m] = y at *; obtain ⟨xa, xb⟩ := x; obtain ⟨ya, yb⟩ := y; have OX := Lh fun W (R : Ending -> World -> Prop) hR => of23_any xa W (R := R) hR
       have OY := Lh fun W (R : Ending -> World -> Prop) hR => of23_any xb W (R := R) hR
       have x0 := e0 wr hg.out 0 _ rfl; have x1 := e0 wr hg.out 1 _ rfl; simp only [Nat.add_zero] at x0
       have E1 : Hid (∀ W, Grow w W -> W.cell? ⟨b, o + m * 2, none⟩ = some (.int .i64 ya) /\ W.cell? ⟨b, o + m * 2 + 1, none⟩ = some (.int .i64 yb)) := fun W h => ⟨e1 W h 0 _ rfl, e1 W h 1 _ rfl⟩
       have BP := Lh (BoxH.laid #[.int .i64 xa, .int .i64 xb] 36 hg.out); have HO := Lh (own_grow HO.out ((Grow.refl wr).al (.cells #[.int .i64 xa, .int .i64 xb] 36))); have OL : Hid (∀ kk, u9.ownBlock = some kk -> kk < (wr.alloc (.cells #[.int .i64 xa, .int .i64 xb] 36)).heap.size) := fun kk hk => Nat.lt_trans (OL.out kk hk) BP.out.lt
       have LW : Hid (wr.heap.size < (wr.alloc (.cells #[.int .i64 xa, .int .i64 xb] 36)).heap.size) := BP.out.lt; clear e0 e1 hmm; go_upto_region 10 with fail
       clear x0 x1; generalize wr.alloc (.cells #[.int .i64 xa, .int .i64 xb] 36) = wa at *; generalize wr.heap.size = pb at *; clear hg; refine wp_region_free1At ⟨7, some 12, 53, #[.int .i64 0, .int .u64 0, .int .u64 0, .int .i64 0, .int .u64 0, .int .u64 0]⟩ 8 [0, 1, 3, 4, 2, 5, 6] (by kernel_rfl) (by kernel_rfl) ?_ (by intro c a d v w h; cases d <;> exact h) u12 rfl ?_
       ·exact ⟨_, rfl, rfl, rfl, fun a W K h => by go_simp; exact h⟩
       have BP := Lh (BP.out.tr (Grow.refl _).dr); have HO := Lh (own_grow HO.out (Grow.refl _).dr); have GF : Hid (Grow wa wa.drew) := (Grow.refl _).dr; apply fr1_take; exact rfl; (simp); (intro x1; exact rfl)
       ·intro x1 W' hW
        have z0 := (BP.out.tr hW).cell 0; have z1 := (BP.out.tr hW).cell 1; clear hW; simp only [Act.put, sA, sZ, sS]
        go_simp
        with_reducible rfl
       simp only [Act.put, sA, sZ, sS]; apply fr1_take; exact rfl; (simp); (intro x1; exact rfl)
       ·intro x1 W' hW
        have z0 := (BP.out.tr hW).cell 0; have z1 := (BP.out.tr hW).cell 1; clear hW; simp only [Act.put, sA, sZ, sS]
        go_simp
        with_reducible rfl
       simp only [Act.put, sA, sZ, sS]; apply fr1_take; exact rfl; (simp); (intro x1; exact rfl)
       ·intro x1 W' hW
        have z0 := (BP.out.tr hW).cell 0; have z1 := (BP.out.tr hW).cell 1; clear hW; simp only [Act.put, sA, sZ, sS]
        go_simp
        with_reducible rfl
       simp only [Act.put, sA, sZ, sS]; apply fr1_take; exact rfl; (simp); (intro x1; exact rfl)
       ·intro x1 W' hW
        have z0 := (BP.out.tr hW).cell 0; have z1 := (BP.out.tr hW).cell 1; clear hW; simp only [Act.put, sA, sZ, sS]
        go_simp
        with_reducible rfl
       simp only [Act.put, sA, sZ, sS]; apply fr1_turn; exact rfl; exact rfl; (simp); (intro x1; exact rfl); intro x1 W5 hW K hK; simp only [Act.put, sA, sZ, sS]
       go_simp
       go_at_call 25; refine OX.out _ _ ?_; intro w5 hg5; have BP := Lh (BP.out.tr (hW.tr hg5)); have HO := Lh (own_grow HO.out (hW.tr hg5)); have GF := Lh (GF.out.tr (hW.tr hg5)); refine hK.out _ _ hg5 ?_; clear hK hW hg5; simp only [Act.put, sA, sZ, sS]; apply fr1_turn; exact rfl; exact rfl; (simp); (intro x1; exact rfl); intro x1 W5 hW K hK; simp only [Act.put, sA, sZ, sS]
       go_simp
       go_at_call 25; refine OY.out _ _ ?_; intro w5 hg5; have BP := Lh (BP.out.tr (hW.tr hg5)); have HO := Lh (own_grow HO.out (hW.tr hg5)); have GF := Lh (GF.out.tr (hW.tr hg5)); refine hK.out _ _ hg5 ?_; clear hK hW hg5; simp only [Act.put, sA, sZ, sS]; apply fr1_take; exact rfl; (simp); (intro x1; exact rfl)
       ·intro x1 W' hW
        have z0 := (BP.out.tr hW).cell 0; have z1 := (BP.out.tr hW).cell 1; clear hW; simp only [Act.put, sA, sZ, sS]
        go_simp
        with_reducible rfl
       simp only [Act.put, sA, sZ, sS]; refine fr1_nil ?_; intro fb U hU hbf; have BP := Lh (BP.out.tr hU); have HO := Lh (own_grow HO.out hU); have GF := Lh (GF.out.tr hU); have L1 : wa.heap.size <= fb := hbf.2.1
       have BF : Hid (BoxH w fb #[.int .i64 0, .int .u64 0, .int .u64 0, .int .i64 0, .int .u64 0, .int .u64 0] 53 U) := ⟨BP.out.grow, by have := BP.out.2.1; have := LW.out; omega, hbf.1⟩
       have n1 : pb ≠ fb := by have := LW.out; omega
       have n2 : u9.ownBlock ≠ some fb := fun e => by have := OL.out fb e; have := LW.out; omega
       clear hU hbf L1; unfold ptrTo; simp only [Act.put, sA, sZ, sS, List.drop_succ_cons, List.drop_zero]; have z0 := BF.out.cell 0; have g0 := BF.out.free 0; have B1 := Lh (BF.out.set 0 (.int .i64 xa)); have z1 := B1.out.cell 1; have g1 := B1.out.free 1; have B2 := Lh (B1.out.set 1 (.int .u64 0)); have z2 := B2.out.cell 2; have g2 := B2.out.free 2; have B3 := Lh (B2.out.set 2 (.int .u64 1)); have z3 := B3.out.cell 3; have g3 := B3.out.free 3; have B4 := Lh (B3.out.set 3 (.int .i64 xb)); have z4 := B4.out.cell 4
       have g4 := B4.out.free 4; have B5 := Lh (B4.out.set 4 (.int .u64 0)); have z5 := B5.out.cell 5; have g5 := B5.out.free 5; have B6 := Lh (B5.out.set 5 (.int .u64 1)); have BP6 := Lh ((((((BP.out.other (j := 0) (v := .int .i64 xa) n1 BF.out.2.1).other (j := 1) (v := .int .u64 0) n1 BF.out.2.1).other (j := 2) (v := .int .u64 1) n1 BF.out.2.1).other (j := 3) (v := .int .i64 xb) n1 BF.out.2.1).other (j := 4) (v := .int .u64 0) n1 BF.out.2.1).other (j := 5) (v := .int .u64 1) n1 BF.out.2.1)
       have HO6 := Lh (own_set (j := 5) (u := .int .u64 1) (own_set (j := 4) (u := .int .u64 0) (own_set (j := 3) (u := .int .i64 xb) (own_set (j := 2) (u := .int .u64 1) (own_set (j := 1) (u := .int .u64 0) (own_set (j := 0) (u := .int .i64 xa) HO.out n2) n2) n2) n2) n2) n2); go_upto_region 11 with fail
       clear z0 z1 z2 z3 z4 z5 g0 g1 g2 g3 g4 g5 B1 B2 B3 B4 B5 HO BP BF; generalize (((((U.setCell ⟨fb, 0, none⟩ (.int .i64 xa)).setCell ⟨fb, 1, none⟩ (.int .u64 0)).setCell ⟨fb, 2, none⟩ (.int .u64 1)).setCell ⟨fb, 3, none⟩ (.int .i64 xb)).setCell ⟨fb, 4, none⟩ (.int .u64 0)).setCell ⟨fb, 5, none⟩ (.int .u64 1) = w6 at *; go_wp2_with fail
       refine wp_region_lexT (fun W => BoxH w pb #[.int .i64 xa, .int .i64 xb] 36 W /\ BoxH w fb #[.int .i64 xa, .int .u64 0, .int .u64 1, .int .i64 xb, .int .u64 0, .int .u64 1] 53 W) (⟨BP6.out.tr (Grow.refl _).dr, B6.out.tr (Grow.refl _).dr⟩) 14 [0, 1, 2, 3, 4, 5, 6, 7, 8, 9, 10, 11, 12, 13] (by kernel_rfl) (by kernel_rfl) (by intro c a d v w h; cases d <;> exact h) ?_
       iterate 13 (apply lext_take; exact rfl; exact rfl; (intro W hW; have hm9 := HM.out; obtain ⟨z1, z2, z3, z4, z5, z6⟩ := ZS.out; have p0 := hW.1.cell 0; have p1 := hW.1.cell 1; have s0 := hW.2.cell 0; have s1 := hW.2.cell 1; have s2 := hW.2.cell 2; have s3 := hW.2.cell 3; have s4 := hW.2.cell 4; have s5 := hW.2.cell 5; obtain ⟨y0, y1⟩ := E1.out W hW.1.grow; (try clear hW); go_simp; with_reducible rfl); try simp only [Act.put, sA, sZ, sS])
       have BP6 := Lh (BP6.out.tr (Grow.refl _).dr); have B6 := Lh (B6.out.tr (Grow.refl _).dr); have HO6 := Lh (own_grow HO6.out (Grow.refl _).dr); apply lext_turn; exact rfl; exact rfl; exact rfl; intro K hK; go_simp; refine hK.out _ _ (⟨BP6.out.tr ((Grow.refl _).al _), B6.out.tr ((Grow.refl _).al _)⟩) ?_; clear hK; try simp only [Act.put, sA, sZ, sS]
       refine lext_nil ?_; simp only [List.drop_succ_cons, List.drop_zero]; go_wp2_with (at_builtin; refine wpList_newAt rfl _ _ rfl el_node HO6.out rfl 1 _ rfl _ rfl (by decide) rfl (by simp [Value.oneCell']) (by omega) B6.out.grow ⟨Nat.le_refl _, B6.out.grow.size⟩ ?_; intro v5 w5 hO5 hg5 hgr5 hb5; have HO7 := Lh hO5; have GB7 := Lh hg5; clear hO5 hg5 hgr5 hb5)
       go_roundw
       case rel => exact ⟨k + 1, by omega, by go_num, own_eq HO7.out rfl (by rw [CS.out, Nodes_app]; simp [Nodes, stN, Node.cells, wholeSpot]), GB7.out⟩
       case measure => simp [intOf]; omega
      ·obtain rfl : k = l.length := by omega
       have HO := Lh hown; have RT : Hid (ringTo l lo hi 0 = cycTo stN l l.length) := rfl; have LN : Hid ((cycTo stN l l.length).length = l.length) := cycTo_len1 l _ (Nat.le_refl _); clear hown k4 k3; have HRD := Lh ((halves_rd lo hi wr).lt (by decide)); have G2 := Lh (hg.out.al (.cells #[.int .i64 lo, .bool false, .bool true, .int .i64 hi, .bool false, .bool false, .int .i64 lo, .bool true, .bool true, .int .i64 hi, .bool true, .bool false] 83))
       have HO := Lh (own_grow HO.out ((Grow.refl wr).al (.cells #[.int .i64 lo, .bool false, .bool true, .int .i64 hi, .bool false, .bool false, .int .i64 lo, .bool true, .bool true, .int .i64 hi, .bool true, .bool false] 83))); go_upto_region 14 with fail
       generalize wr.alloc (.cells #[.int .i64 lo, .bool false, .bool true, .int .i64 hi, .bool false, .bool false, .int .i64 lo, .bool true, .bool true, .int .i64 hi, .bool true, .bool false] 83) = w2 at *; generalize wr.heap.size = hb at *; clear hg; obtain ⟨_, A2, c2, hv2, -, -, -, r4⟩ := HRD.out; injection hv2 with e1 e2 e3
       clear e2; subst e1 e3; obtain ⟨hb2, ho2, hA2, hS2, hc2⟩ := r4 (by show 0 < 4; decide); injection hA2 with hA2
       injection hA2 with e1 e2 e3
       subst e1 e2; clear r4 HRD
       go_loopw [72, 9] (fun i s wr => ∃ (k : Nat), k <= 4 /\ i = .int .i64 k /\ wr.ownsRow w.heap.size 81 11 s (ringTo l lo hi k).length (Nodes (ringTo l lo hi k)) /\ Hid (Grow w2 wr)) (fun i _ _ => 4 - (intOf i).toNat)
       case atStart => exact ⟨0, by decide, rfl, own_eq HO.out (by rw [RT.out, LN.out]) (by rw [RT.out]), Grow.refl _⟩
       case round =>
        obtain ⟨k, hk, rfl, hown, hg⟩ := hrel
        by_cases hlt : k < 4
        ·have e0 := flat_cells Hf.cells_len hg.out hS2 hc2 (show k < (halves lo hi).length from hlt)
         have CS := Lh (ringTo_succ l lo hi k hlt); obtain ⟨KO1, KL⟩ := KO.out k hk
         have KL2 : (ringTo l lo hi k).length <= 100000 := by
          have : 2 ^ k <= 16 := by rcases (show k = 0 ∨ k = 1 ∨ k = 2 ∨ k = 3 by omega) with rfl | rfl | rfl | rfl <;> decide
          have := Nat.mul_le_mul this hl; omega
         obtain ⟨AN, CN, hN⟩ := own_slice hown; have HC := Lh fun W (hg : Grow wr W) (R : Ending -> World -> Prop) hR => hclip_any ((halves lo hi)[k]'hlt) (ringTo l lo hi k) _ _ W (Rd.own (own_grow hown hg)) KL2 KO1 (R := R) hR
         clear hown KO1 KL KL2; subst hN
         obtain ⟨ns, hns⟩ : ∃ ns, ringTo l lo hi k = ns := ⟨_, rfl⟩
         simp only [hns] at *; generalize ((halves lo hi)[k]'hlt) = x at *; obtain ⟨xc, xu, xb⟩ := x; have x0 := e0 0 _ rfl; have x1 := e0 1 _ rfl; have x2 := e0 2 _ rfl; simp only [Nat.add_zero, Nat.zero_add] at x0 x1 x2; unfold Hf.cells at HC; dsimp only at HC; have BX := Lh (BoxH.laid #[.int .i64 xc, .bool xu, .bool xb] 83 hg.out); have GX : Hid (Grow wr (wr.alloc (.cells #[.int .i64 xc, .bool xu, .bool xb] 83))) := (Grow.refl wr).al _; have y0 := BX.out.cell 0; have y1 := BX.out.cell 1; have y2 := BX.out.cell 2; clear e0 hns; go_wp2_with fail
         clear x0 x1 x2 y0 y1 y2; go_at_call 26; refine HC.out _ GX.out _ ?_; intro r3 w3 hO3 hg3; have G3 := Lh (BX.out.grow.tr hg3); have HO3 := Lh (own_base hO3 (Nat.le_trans G2.out.size BX.out.grow.size)); clear hO3 hg3; go_wp2; go_roundw
         case rel => exact ⟨k + 1, by omega, by go_num, own_eq HO3.out (by rw [CS.out]) (by rw [CS.out]), G3.out⟩
         case measure => simp [intOf]; omega
        ·obtain rfl : k = 4 := by omega
         obtain ⟨-, KL⟩ := KO.out 4 (by decide); have KL2 : (ringTo l lo hi 4).length <= 100000 := by omega
         have RS : Hid (ringS l lo hi = (ringTo l lo hi 4).map Node.s) := rfl; have G4 := Lh (G2.out.tr hg.out); have HD := Rd.own_lt hown; clear hown KL KO; generalize ringTo l lo hi 4 = ns at *; obtain ⟨_, A5, c5, rfl, p1, p2, p3, p4⟩ := HD; unfold maxLen at p2; generalize wr = w4 at *; go_wp2
         go_loopw [82, 15] (fun i s wx => ∃ (k : Nat), k <= ns.length /\ i = .int .i64 k /\ wx.ownsRow w4.heap.size 53 6 s k (Spots ((ns.take k).map Node.s)) /\ Hid (Grow w4 wx)) (fun i _ _ => ns.length - (intOf i).toNat)
         case atStart => exact ⟨0, Nat.zero_le _, rfl, World.ownsRow_nil _ _ _ _, Grow.refl _⟩
         case round =>
          obtain ⟨k, hk, rfl, hown, hgx⟩ := hrel
          by_cases hlt : k < ns.length
          ·obtain ⟨b5, o5, rfl, hS, hc⟩ := p4 (by omega)
           have e0 := flat_cells Node.cells_len hgx.out hS hc hlt
           have TS : Hid (Spots ((ns.take (k + 1)).map Node.s) = Spots ((ns.take k).map Node.s) ++ (ns[k]).s.cells) := by
            show _ = _; rw [List.take_succ_eq_append_getElem hlt, List.map_append, Spots_app]; simp [Spots]
           have HO := Lh hown; clear hc p4 p3 hown; generalize ns[k] = x at *; obtain ⟨⟨⟨xq1, xr1, xd1⟩, ⟨xq2, xr2, xd2⟩⟩, ⟨xa, xb⟩, ⟨xc, xe⟩, xp⟩ := x; have x0 := e0 0 _ rfl; have x1 := e0 1 _ rfl; have x2 := e0 2 _ rfl; have x3 := e0 3 _ rfl; have x4 := e0 4 _ rfl; have x5 := e0 5 _ rfl; have x6 := e0 6 _ rfl; have x7 := e0 7 _ rfl; have x8 := e0 8 _ rfl; have x9 := e0 9 _ rfl; have x10 := e0 10 _ rfl; simp only [Nat.add_zero] at x0
           have BX := Lh (BoxH.laid #[.int .i64 xq1, .int .u64 (xr1 : Nat), .int .u64 (xd1 : Nat), .int .i64 xq2, .int .u64 (xr2 : Nat), .int .u64 (xd2 : Nat), .int .i64 xa, .int .i64 xb, .int .i64 xc, .int .i64 xe, .bool xp] 81 hgx.out); have HO := Lh (own_grow HO.out ((Grow.refl wr).al (.cells #[.int .i64 xq1, .int .u64 (xr1 : Nat), .int .u64 (xd1 : Nat), .int .i64 xq2, .int .u64 (xr2 : Nat), .int .u64 (xd2 : Nat), .int .i64 xa, .int .i64 xb, .int .i64 xc, .int .i64 xe, .bool xp] 81))); have y0 := BX.out.cell 0; have y1 := BX.out.cell 1; have y2 := BX.out.cell 2
           have y3 := BX.out.cell 3; have y4 := BX.out.cell 4; have y5 := BX.out.cell 5; clear e0; go_wp2_with (at_builtin; refine wpList_newAt rfl _ _ rfl el_spot HO.out rfl 1 _ (World.size_alloc _ _) _ rfl (by decide) rfl (by simp [Value.oneCell']) (by omega) BX.out.grow ⟨Nat.le_refl _, BX.out.grow.size⟩ ?_; intro v5 w5 hO5 hg5 hgr5 hb5; have HO5 := Lh hO5; have GB5 := Lh hg5; clear hO5 hg5 hgr5 hb5)
           go_roundw
           case rel => exact ⟨k + 1, by omega, by go_num, own_eq HO5.out rfl (by rw [TS.out]; rfl), GB5.out⟩
           case measure => simp [intOf]; omega
          ·obtain rfl : k = ns.length := by omega
           have ET : Hid ((ns.take ns.length).map Node.s = ns.map Node.s) := by show _ = _; rw [List.take_length]
           rw [ET.out] at hown; go_wp2; exact HR.out _ LE0.out _ (RE.out.trans RS.out) _ _ (own_eq (own_base hown G4.out.size) (by rw [List.length_map]) rfl) (G4.out.tr hgx.out)
end Go.Proofs.YteeeeddeacepmaaGreatDoor
namespace Go.Proofs.YteeeeddeacepmaaGreatDoor
set_option maxRecDepth 100000
open Go.RowKit B
deriving instance DecidableEq for Fr
deriving instance DecidableEq for Spot
end Go.Proofs.YteeeeddeacepmaaGreatDoor
namespace Go.Proofs.YteeeeddeacepmaaGreatDoor
set_option maxRecDepth 100000
structure SRow where
 v : Value
 l : List Spot
end Go.Proofs.YteeeeddeacepmaaGreatDoor
