/-
  Rings clipped at a window: nodes, halves: has, cross.
-/
import Derived.Test.YtjcgkhcbdbbdkaaChecked
import Derived.Test.YtjcgkhcbdbbdkaaFracCmps
import Derived.Test.YtjcgkhcbdbbdkaaNorm
import Derived.Test.YtjcgkhcbdbbdkaaCore
import Derived.Test.YtjcgkhcbdbbdkaaCrossG
import Derived.Deep.Cut
namespace Go.Proofs.Ytjcgkhcbdbbdkaa
open Go.RowKit Go.Lib B

structure Node where
  s : Spot
  p : Pt
  q : Pt
  pl : Bool
def Node.cells (n : Node) : List Value := [.int .i64 n.s.x.q, .int .u64 n.s.x.r, .int .u64 n.s.x.d, .int .i64 n.s.y.q, .int .u64 n.s.y.r, .int .u64 n.s.y.d, .int .i64 n.p.x, .int .i64 n.p.y, .int .i64 n.q.x, .int .i64 n.q.y, .bool n.pl]
theorem Node.cells_len (n : Node) : n.cells.length = 11 := rfl
def Nodes (l : List Node) : List Value := l.flatMap Node.cells
theorem Nodes_app (l m : List Node) : Nodes (l ++ m) = Nodes l ++ Nodes m := List.flatMap_append
theorem Nodes_len (l : List Node) : (Nodes l).length = l.length * 11 := flat_len _ _ Node.cells_len l
structure Hf where
  c : Int
  up : Bool
  ab : Bool
def Hf.cells (h : Hf) : List Value := [.int .i64 h.c, .bool h.up, .bool h.ab]
def fcmpS (f : Fr) (n : Int) : Int := if f.right = true then orL [cmpI' f.q n, cmpI' (f.r : Int) 0] else 0
def Hf.has (h : Hf) (s : Spot) : Bool := if h.ab = true then decide (0 ≤ fcmpS (if h.up = true then s.y else s.x) h.c) else decide (fcmpS (if h.up = true then s.y else s.x) h.c ≤ 0)
def Hf.cross (h : Hf) (n : Node) : Spot :=
  if h.up = true then ⟨if n.pl = true then n.s.x else (crossS n.p n.q h.c h.up).1, ⟨h.c, 0, 1⟩⟩
  else ⟨⟨h.c, 0, 1⟩, if n.pl = true then n.s.y else (crossS n.p n.q h.c h.up).1⟩

theorem crossC_ok {p q : Pt} {c : Int} (hp : p.far = false) (hq : q.far = false) : (crossC p q c).1.ok := by
  unfold crossC
  by_cases h : noneB p q c = true
  · rw [if_pos h]; exact ⟨by decide, by decide, by decide, by decide⟩
  · rw [if_neg h]
    obtain ⟨h1, h2, h3, h4, -⟩ := Fr.right_iff (cross_is hp hq (by simpa using h)).1
    exact ⟨by dsimp only; omega, by dsimp only; omega, by dsimp only; omega, by dsimp only; omega⟩
theorem crossS_ok (p q : Pt) (c : Int) (up : Bool) : (crossS p q c up).1.ok := by
  unfold crossS
  split
  · exact ⟨by decide, by decide, by decide, by decide⟩
  · rename_i h
    simp only [Bool.or_eq_true, not_or, Bool.not_eq_true] at h
    split
    · exact crossC_ok (by rw [Pt.swap_far]; exact h.1.1) (by rw [Pt.swap_far]; exact h.1.2)
    · exact crossC_ok h.1.1 h.1.2

set_option maxRecDepth 100000 in
set_option maxHeartbeats 4000000 in
theorem has_any (h : Hf) (s : Spot) (w : World) (hs : s.ok) {R : Ending → World → Prop} (hR : ∀ w', Grow w w' → R (.returned (.bool (h.has s))) w') :
    Calls Try.prog 80 #[.agg h.cells.toArray, .agg s.cells.toArray] w R := by
  have HR : ∀ b, h.has s = b → ∀ w', Grow w w' → R (.returned (.bool b)) w' := by rintro b rfl; exact hR
  have HR := Lib.hid HR
  clear hR
  have FX := Lib.hid fun W (R : Ending → World → Prop) hR => fcmp_any s.x h.c W hs.1 (R := R) hR
  have FY := Lib.hid fun W (R : Ending → World → Prop) hR => fcmp_any s.y h.c W hs.2 (R := R) hR
  clear hs
  obtain ⟨mx, hmx⟩ : ∃ m, fcmpS s.x h.c = m := ⟨_, rfl⟩
  obtain ⟨my, hmy⟩ : ∃ m, fcmpS s.y h.c = m := ⟨_, rfl⟩
  rw [show (if s.x.right = true then orL [cmpI' s.x.q h.c, cmpI' (s.x.r : Int) 0] else 0) = mx from hmx] at FX
  rw [show (if s.y.right = true then orL [cmpI' s.y.q h.c, cmpI' (s.y.r : Int) 0] else 0) = my from hmy] at FY
  have HV : Hid (h.has s = if h.ab = true then decide (0 ≤ (if h.up = true then my else mx)) else decide ((if h.up = true then my else mx) ≤ 0)) := by
    show _ = _
    unfold Hf.has
    cases h.up <;> simp only [hmx, hmy, if_true, Bool.false_eq_true, if_false]
  rw [HV.out] at HR
  clear hmx hmy HV
  obtain ⟨c, up, ab⟩ := h
  obtain ⟨⟨q1, r1, d1⟩, ⟨q2, r2, d2⟩⟩ := s
  unfold Fr.cells at FX FY
  unfold Hf.cells Spot.cells
  dsimp only at FX FY HR ⊢
  obtain ⟨wa, hwa⟩ : ∃ wa, wa = (w.alloc (.cells #[.int .i64 c, .bool up, .bool ab] 101)).alloc (.cells #[.int .i64 q1, .int .u64 (r1 : Nat), .int .u64 (d1 : Nat), .int .i64 q2, .int .u64 (r2 : Nat), .int .u64 (d2 : Nat)] 28) := ⟨_, rfl⟩
  have BH : Hid (BoxH w w.heap.size #[.int .i64 c, .bool up, .bool ab] 101 wa) := by
    rw [hwa]
    exact (BoxH.laid #[.int .i64 c, .bool up, .bool ab] 101 (Grow.refl w)).tr ((Grow.refl _).al _)
  have BS : Hid (BoxH w (w.heap.size + 1) #[.int .i64 q1, .int .u64 (r1 : Nat), .int .u64 (d1 : Nat), .int .i64 q2, .int .u64 (r2 : Nat), .int .u64 (d2 : Nat)] 28 wa) := by
    have := BoxH.laid (w := w.alloc (.cells #[.int .i64 c, .bool up, .bool ab] 101)) #[.int .i64 q1, .int .u64 (r1 : Nat), .int .u64 (d1 : Nat), .int .i64 q2, .int .u64 (r2 : Nat), .int .u64 (d2 : Nat)] 28 ((Grow.refl w).al _)
    rw [World.size_alloc] at this
    rw [hwa]
    exact this
  have HWA := Lib.hid hwa
  clear hwa
  have s0 := BS.out.cell 0
  have s1 := BS.out.cell 1
  have s2 := BS.out.cell 2
  go_enter Try.func80, Try.ntmps80
  go_upto_region 1 with fail
  rw [← HWA.out]
  clear HWA
  go_upto_region 2 with fail
  have FN := Lib.hid BS.out.lt
  have BF := Lib.hid (BoxH.laid #[.int .i64 q1, .int .u64 (r1 : Nat), .int .u64 (d1 : Nat)] 26 BS.out.grow)
  have BH := Lib.hid (BH.out.tr ((Grow.refl _).al (.cells #[.int .i64 q1, .int .u64 (r1 : Nat), .int .u64 (d1 : Nat)] 26)))
  have BS := Lib.hid (BS.out.tr ((Grow.refl _).al (.cells #[.int .i64 q1, .int .u64 (r1 : Nat), .int .u64 (d1 : Nat)] 26)))
  clear s0 s1 s2
  generalize wa.alloc (.cells #[.int .i64 q1, .int .u64 (r1 : Nat), .int .u64 (d1 : Nat)] 26) = wb at *
  generalize wa.heap.size = fb at *
  have n1 : w.heap.size ≠ fb := by have := FN.out; omega
  have n2 : w.heap.size + 1 ≠ fb := by have := FN.out; omega
  have h0 := BH.out.cell 0
  have h1 := BH.out.cell 1
  have h2 := BH.out.cell 2
  cases up with
  | false =>
    have f0 := BF.out.cell 0
    have f1 := BF.out.cell 1
    have f2 := BF.out.cell 2
    cases ab with
    | false =>
      trace_state
      go_wp2_with fail
      clear h0 h1 h2 f0 f1 f2
      go_at_call 24
      refine FX.out _ _ ?_
      intro w1 hg1
      have G1 := Lib.hid (BF.out.grow.tr hg1)
      clear hg1
      go_wp2
      exact HR.out _ rfl _ G1.out
    | true =>
      trace_state
      go_wp2_with fail
      clear h0 h1 h2 f0 f1 f2
      go_at_call 24
      refine FX.out _ _ ?_
      intro w1 hg1
      have G1 := Lib.hid (BF.out.grow.tr hg1)
      clear hg1
      go_wp2
      exact HR.out _ rfl _ G1.out
  | true =>
    have s3 := BS.out.cell 3
    have s4 := BS.out.cell 4
    have s5 := BS.out.cell 5
    have g0 := BF.out.free 0
    have f0 := BF.out.cell 0
    have g1 := (BF.out.set 0 (.int .i64 q2)).free 1
    have f1 := (BF.out.set 0 (.int .i64 q2)).cell 1
    have g2 := ((BF.out.set 0 (.int .i64 q2)).set 1 (.int .u64 (r2 : Nat))).free 2
    have f2 := ((BF.out.set 0 (.int .i64 q2)).set 1 (.int .u64 (r2 : Nat))).cell 2
    have BF3 := Lib.hid (((BF.out.set 0 (.int .i64 q2)).set 1 (.int .u64 (r2 : Nat))).set 2 (.int .u64 (d2 : Nat)))
    have BH3 : Hid (BoxH w w.heap.size #[.int .i64 c, .bool true, .bool ab] 101 (((wb.setCell ⟨fb, 0, none⟩ (.int .i64 q2)).setCell ⟨fb, 1, none⟩ (.int .u64 (r2 : Nat))).setCell ⟨fb, 2, none⟩ (.int .u64 (d2 : Nat)))) := ((BH.out.other n1 BF.out.2.1).other n1 BF.out.2.1).other n1 BF.out.2.1
    go_upto_region 4 with fail
    clear s3 s4 s5 f0 f1 f2 g0 g1 g2 h0 h1 h2
    generalize ((wb.setCell ⟨fb, 0, none⟩ (.int .i64 q2)).setCell ⟨fb, 1, none⟩ (.int .u64 (r2 : Nat))).setCell ⟨fb, 2, none⟩ (.int .u64 (d2 : Nat)) = wc at *
    have h0 := BH3.out.cell 0
    have h1 := BH3.out.cell 1
    have h2 := BH3.out.cell 2
    have f0 := BF3.out.cell 0
    have f1 := BF3.out.cell 1
    have f2 := BF3.out.cell 2
    cases ab with
    | false =>
      trace_state
      go_wp2_with fail
      clear h0 h1 h2 f0 f1 f2
      go_at_call 24
      refine FY.out _ _ ?_
      intro w1 hg1
      have G1 := Lib.hid (BF3.out.grow.tr hg1)
      clear hg1
      go_wp2
      exact HR.out _ rfl _ G1.out
    | true =>
      trace_state
      go_wp2_with fail
      clear h0 h1 h2 f0 f1 f2
      go_at_call 24
      refine FY.out _ _ ?_
      intro w1 hg1
      have G1 := Lib.hid (BF3.out.grow.tr hg1)
      clear hg1
      go_wp2
      exact HR.out _ rfl _ G1.out
end Go.Proofs.Ytjcgkhcbdbbdkaa
