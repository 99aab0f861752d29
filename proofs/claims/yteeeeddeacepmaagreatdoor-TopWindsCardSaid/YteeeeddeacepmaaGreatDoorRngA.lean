import Derived.Test.YteeeeddeacepmaaGreatDoorFrMC
import Derived.Test.YteeeeddeacepmaaGreatDoorNorm
import Derived.Deep.Cut
namespace Go.Proofs.YteeeeddeacepmaaGreatDoor
set_option maxRecDepth 100000
open Go.RowKit Go.Lib B
structure Node where
 s : Spot
 p : Pt
 q : Pt
 pl : Bool
def Node.cells (n : Node) : List Value := [.int .i64 n.s.x.q, .int .u64 n.s.x.r, .int .u64 n.s.x.d, .int .i64 n.s.y.q, .int .u64 n.s.y.r, .int .u64 n.s.y.d, .int .i64 n.p.x, .int .i64 n.p.y, .int .i64 n.q.x, .int .i64 n.q.y, .bool n.pl]
theorem Node.cells_len (n : Node) : n.cells.length = 11 := rfl
def Nodes (l : List Node) : List Value := l.flatMap Node.cells
theorem Nodes_app (l m : List Node) : Nodes (l ++ m) = Nodes l ++ Nodes m := List.flatMap_append
structure Hf where
 c : Int
 up : Bool
 ab : Bool
def Hf.cells (h : Hf) : List Value := [.int .i64 h.c, .bool h.up, .bool h.ab]
def fcmpS (f : Fr) (n : Int) : Int := if f.right = true then orL [cmpI' f.q n, cmpI' (f.r : Int) 0] else 0
def Hf.has (h : Hf) (s : Spot) : Bool := if h.ab = true then decide (0 <= fcmpS (if h.up = true then s.y else s.x) h.c) else decide (fcmpS (if h.up = true then s.y else s.x) h.c <= 0)
def Hf.cross (h : Hf) (n : Node) : Spot :=
 if h.up = true then ⟨if n.pl = true then n.s.x else (crossS n.p n.q h.c h.up).1, ⟨h.c, 0, 1⟩⟩
 else ⟨⟨h.c, 0, 1⟩, if n.pl = true then n.s.y else (crossS n.p n.q h.c h.up).1⟩
theorem crossC_ok {p q : Pt} {c : Int} (hp : p.far = false) (hq : q.far = false) : (crossC p q c).1.ok := by
 unfold crossC
 by_cases h : noneB p q c = true
 ·rw [if_pos h]; exact ⟨by decide, by decide, by decide, by decide⟩
 ·rw [if_neg h]
  obtain ⟨h1, h2, h3, h4, -⟩ := Fr.right_iff (cross_is hp hq (by simpa using h)).1; exact ⟨by dsimp only; omega, by dsimp only; omega, by dsimp only; omega, by dsimp only; omega⟩
theorem crossS_ok (p q : Pt) (c : Int) (up : Bool) : (crossS p q c up).1.ok := by
 unfold crossS
 split
 ·exact ⟨by decide, by decide, by decide, by decide⟩
 ·rename_i h
  simp only [Bool.or_eq_true, not_or, Bool.not_eq_true] at h
  split
  ·exact crossC_ok (by rw [Pt.swap_far]; exact h.1.1) (by rw [Pt.swap_far]; exact h.1.2)
  ·exact crossC_ok h.1.1 h.1.2
set_option maxHeartbeats 4000000 in
theorem has_any (h : Hf) (s : Spot) (w : World) (hs : s.ok) {R : Ending -> World -> Prop} (hR : ∀ w', Grow w w' -> R (.returned (.bool (h.has s))) w') :
  Calls Tryz.prog 40 #[.agg h.cells.toArray, .agg s.cells.toArray] w R := by
 have HR : ∀ b, h.has s = b -> ∀ w', Grow w w' -> R (.returned (.bool b)) w' := by rintro b rfl; exact hR
 have HR := Lh HR; clear hR; have FX := Lh fun W (R : Ending -> World -> Prop) hR => fcmp_any s.x h.c W hs.1 (R := R) hR
 have FY := Lh fun W (R : Ending -> World -> Prop) hR => fcmp_any s.y h.c W hs.2 (R := R) hR
 clear hs
 obtain ⟨mx, hmx⟩ : ∃ m, fcmpS s.x h.c = m := ⟨_, rfl⟩
 obtain ⟨my, hmy⟩ : ∃ m, fcmpS s.y h.c = m := ⟨_, rfl⟩
 rw [show (if s.x.right = true then orL [cmpI' s.x.q h.c, cmpI' (s.x.r : Int) 0] else 0) = mx from hmx] at FX; rw [show (if s.y.right = true then orL [cmpI' s.y.q h.c, cmpI' (s.y.r : Int) 0] else 0) = my from hmy] at FY
 have HV : Hid (h.has s = if h.ab = true then decide (0 <= (if h.up = true then my else mx)) else decide ((if h.up = true then my else mx) <= 0)) := by
  show _ = _; unfold Hf.has
  cases h.up <;> simp only [hmx, hmy, if_true, Bool.false_eq_true, if_false]
 rw [HV.out] at HR; clear hmx hmy HV; obtain ⟨c, up, ab⟩ := h; obtain ⟨⟨q1, r1, d1⟩, ⟨q2, r2, d2⟩⟩ := s; unfold Fr.cells at FX FY; unfold Hf.cells Spot.cells; dsimp only at FX FY HR ⊢
 obtain ⟨wa, hwa⟩ : ∃ wa, wa = (w.alloc (.cells #[.int .i64 c, .bool up, .bool ab] 83)).alloc (.cells #[.int .i64 q1, .int .u64 (r1 : Nat), .int .u64 (d1 : Nat), .int .i64 q2, .int .u64 (r2 : Nat), .int .u64 (d2 : Nat)] 53) := ⟨_, rfl⟩
 have BH : Hid (BoxH w w.heap.size #[.int .i64 c, .bool up, .bool ab] 83 wa) := by
  rw [hwa]; exact (BoxH.laid #[.int .i64 c, .bool up, .bool ab] 83 (Grow.refl w)).tr ((Grow.refl _).al _)
 have BS : Hid (BoxH w (w.heap.size + 1) #[.int .i64 q1, .int .u64 (r1 : Nat), .int .u64 (d1 : Nat), .int .i64 q2, .int .u64 (r2 : Nat), .int .u64 (d2 : Nat)] 53 wa) := by
  have := BoxH.laid (w := w.alloc (.cells #[.int .i64 c, .bool up, .bool ab] 83)) #[.int .i64 q1, .int .u64 (r1 : Nat), .int .u64 (d1 : Nat), .int .i64 q2, .int .u64 (r2 : Nat), .int .u64 (d2 : Nat)] 53 ((Grow.refl w).al _); rw [World.size_alloc] at this; rw [hwa]; exact this
 have HWA := Lh hwa; clear hwa; have s0 := BS.out.cell 0; have s1 := BS.out.cell 1; have s2 := BS.out.cell 2; go_enter Tryz.func40, Tryz.ntmps40
 go_upto_region 1 with fail
 rw [<- HWA.out]; clear HWA; go_upto_region 2 with fail
 have FN := Lh BS.out.lt; have BF := Lh (BoxH.laid #[.int .i64 q1, .int .u64 (r1 : Nat), .int .u64 (d1 : Nat)] 27 BS.out.grow); have BH := Lh (BH.out.tr ((Grow.refl _).al (.cells #[.int .i64 q1, .int .u64 (r1 : Nat), .int .u64 (d1 : Nat)] 27))); have BS := Lh (BS.out.tr ((Grow.refl _).al (.cells #[.int .i64 q1, .int .u64 (r1 : Nat), .int .u64 (d1 : Nat)] 27))); clear s0 s1 s2; generalize wa.alloc (.cells #[.int .i64 q1, .int .u64 (r1 : Nat), .int .u64 (d1 : Nat)] 27) = wb at *; generalize wa.heap.size = fb at *; have n1 : w.heap.size ≠ fb := by have := FN.out; omega
 have n2 : w.heap.size + 1 ≠ fb := by have := FN.out; omega
 have h0 := BH.out.cell 0; have h1 := BH.out.cell 1; have h2 := BH.out.cell 2
 cases up with
 | false =>
  have f0 := BF.out.cell 0; have f1 := BF.out.cell 1; have f2 := BF.out.cell 2
  cases ab with
  | false =>
   trace_state
   go_wp2_with fail
   clear h0 h1 h2 f0 f1 f2; go_at_call 59; refine FX.out _ _ ?_; intro w1 hg1; have G1 := Lh (BF.out.grow.tr hg1); clear hg1; go_wp2; exact HR.out _ rfl _ G1.out
  | true =>
   trace_state
   go_wp2_with fail
   clear h0 h1 h2 f0 f1 f2; go_at_call 59; refine FX.out _ _ ?_; intro w1 hg1; have G1 := Lh (BF.out.grow.tr hg1); clear hg1; go_wp2; exact HR.out _ rfl _ G1.out
 | true =>
  have s3 := BS.out.cell 3; have s4 := BS.out.cell 4; have s5 := BS.out.cell 5; have g0 := BF.out.free 0; have f0 := BF.out.cell 0; have g1 := (BF.out.set 0 (.int .i64 q2)).free 1; have f1 := (BF.out.set 0 (.int .i64 q2)).cell 1; have g2 := ((BF.out.set 0 (.int .i64 q2)).set 1 (.int .u64 (r2 : Nat))).free 2; have f2 := ((BF.out.set 0 (.int .i64 q2)).set 1 (.int .u64 (r2 : Nat))).cell 2; have BF3 := Lh (((BF.out.set 0 (.int .i64 q2)).set 1 (.int .u64 (r2 : Nat))).set 2 (.int .u64 (d2 : Nat)))
  have BH3 : Hid (BoxH w w.heap.size #[.int .i64 c, .bool true, .bool ab] 83 (((wb.setCell ⟨fb, 0, none⟩ (.int .i64 q2)).setCell ⟨fb, 1, none⟩ (.int .u64 (r2 : Nat))).setCell ⟨fb, 2, none⟩ (.int .u64 (d2 : Nat)))) := ((BH.out.other n1 BF.out.2.1).other n1 BF.out.2.1).other n1 BF.out.2.1; go_upto_region 4 with fail
  clear s3 s4 s5 f0 f1 f2 g0 g1 g2 h0 h1 h2; generalize ((wb.setCell ⟨fb, 0, none⟩ (.int .i64 q2)).setCell ⟨fb, 1, none⟩ (.int .u64 (r2 : Nat))).setCell ⟨fb, 2, none⟩ (.int .u64 (d2 : Nat)) = wc at *; have h0 := BH3.out.cell 0; have h1 := BH3.out.cell 1; have h2 := BH3.out.cell 2; have f0 := BF3.out.cell 0; have f1 := BF3.out.cell 1; have f2 := BF3.out.cell 2
  cases ab with
  | false =>
   trace_state
   go_wp2_with fail
   clear h0 h1 h2 f0 f1 f2; go_at_call 59; refine FY.out _ _ ?_; intro w1 hg1; have G1 := Lh (BF3.out.grow.tr hg1); clear hg1; go_wp2; exact HR.out _ rfl _ G1.out
  | true =>
   trace_state
   go_wp2_with fail
   clear h0 h1 h2 f0 f1 f2; go_at_call 59; refine FY.out _ _ ?_; intro w1 hg1; have G1 := Lh (BF3.out.grow.tr hg1); clear hg1; go_wp2; exact HR.out _ rfl _ G1.out
end Go.Proofs.YteeeeddeacepmaaGreatDoor
namespace Go.Proofs.YteeeeddeacepmaaGreatDoor
set_option maxRecDepth 100000
open Go.RowKit
def fidx (pr : Pt -> Bool) (l : List Pt) : Int := match l.findIdx? pr with | some i => (i : Int) | none => -1
theorem take_all_succ {α : Type} {pr : α -> Bool} {l : List α} {k : Nat} (hk : k < l.length) (h : ∀ q ∈ l.take k, pr q = false) (hx : pr l[k] = false) : ∀ q ∈ l.take (k + 1), pr q = false := by
 intro q hq; rw [List.take_succ_eq_append_getElem hk] at hq; rcases List.mem_append.1 hq with hq | hq
 ·exact h q hq
 ·rw [List.mem_singleton.1 hq]; exact hx
theorem fidx_none {pr : Pt -> Bool} {l : List Pt} (h : ∀ q ∈ l.take l.length, pr q = false) : fidx pr l = -1 := by
 rw [List.take_length] at h; have : l.findIdx? pr = none := by rw [List.findIdx?_eq_none_iff]; exact h
 simp [fidx, this]
theorem fidx_some {pr : Pt -> Bool} {l : List Pt} {k : Nat} (hk : k < l.length) (h : ∀ q ∈ l.take k, pr q = false) (hx : pr l[k] = true) : fidx pr l = k := by
 have : l.findIdx? pr = some k := by
  rw [List.findIdx?_eq_some_iff_getElem]; refine ⟨hk, hx, fun j hj => ?_⟩; rw [h l[j] (by rw [List.mem_take_iff_getElem]; exact ⟨j, by omega, rfl⟩)]; simp
 simp [fidx, this]
end Go.Proofs.YteeeeddeacepmaaGreatDoor
namespace Go.Proofs.YteeeeddeacepmaaGreatDoor
set_option maxRecDepth 100000
open Go.RowKit
set_option maxHeartbeats 400000 in
theorem far25_any (n : Int) (w : World) {R : Ending -> World -> Prop} (hR : R (.returned (.bool (!inw n))) w) : Calls Tryz.prog 23 #[.int .i64 n] w R := by
 have HR : ∀ b, (!inw n) = b -> R (.returned (.bool b)) w := by rintro b rfl; exact hR
 have HR := Lh HR; clear hR
 by_cases h : -4503599627370496 <= n
 ·have t1 : decide (n < -4503599627370496) = false := by simp; omega
  go_enter Tryz.func23, Tryz.ntmps23
  go_wp2; simp only [inw, h, decide_true, Bool.true_and, <- decide_not, Int.not_le]
 ·have t1 : decide (n < -4503599627370496) = true := by simp; omega
  go_enter Tryz.func23, Tryz.ntmps23
  go_wp2; simp [inw]
  omega
set_option maxHeartbeats 1000000 in
theorem pfar25_any (p : Pt) (w : World) {R : Ending -> World -> Prop} (hR : ∀ w', Grow w w' -> R (.returned (.bool p.far)) w') : Calls Tryz.prog 22 #[.agg p.cells.toArray] w R := by
 obtain ⟨x, y⟩ := p; have HR : ∀ b w', (Pt.far ⟨x, y⟩) = b -> Grow w w' -> R (.returned (.bool b)) w' := by rintro b w' rfl h; exact hR _ h
 have HR := Lh HR; clear hR; have HI := Lh fun W (R : Ending -> World -> Prop) hR => far25_any x W (R := R) hR
 have HJ := Lh fun W (R : Ending -> World -> Prop) hR => far25_any y W (R := R) hR
 unfold Pt.cells; dsimp only
 cases hq : inw x
 ·rw [hq] at HI
  have hq := Lh hq; go_enter Tryz.func22, Tryz.ntmps22
  go_wp2_with (go_at_call 23; refine HI.out _ _ ?_)
  refine HR.out _ _ (by simp [Pt.far, hq.out]) ((Grow.refl w).al _)
 ·rw [hq] at HI
  have hq := Lh hq; go_enter Tryz.func22, Tryz.ntmps22
  go_wp2_with (go_at_call 23; first | (refine HI.out _ _ ?_) | (refine HJ.out _ _ ?_))
  refine HR.out _ _ (by simp [Pt.far, hq.out]) ((Grow.refl w).al _)
set_option maxHeartbeats 2000000 in
theorem index25_any (l : List Pt) (v : Value) (S : Nat -> Prop) (w : World) (hb : Rd w S 2 v l.length (Pts l)) {R : Ending -> World -> Prop}
  (hR : ∀ w', Grow w w' -> R (.returned (.int .i64 (fidx Pt.far l))) w') :
  Calls Tryz.prog 39 #[v, .func (.func 22) #[] #[]] w R := by
 have HR := Lh hR; clear hR; have hb := hb.lt (by decide); obtain ⟨_, A, c, rfl, k1, k2, k3, k4⟩ := hb; unfold maxLen at k2; go_enter Tryz.func39, Tryz.ntmps39
 go_wp2
 go_loopw [8] (fun i wr => ∃ (k : Nat), k <= l.length /\ i = .int .i64 k /\ Hid (∀ q ∈ l.take k, q.far = false) /\ Hid (Grow w wr)) (fun i _ => l.length - (intOf i).toNat)
 case atStart => exact ⟨0, Nat.zero_le _, rfl, fun q hq => by simp at hq, Grow.refl _⟩
 case round =>
  obtain ⟨k, hk, rfl, hall, hg⟩ := hrel
  by_cases hlt : k < l.length
  ·obtain ⟨b, o, rfl, hS, hc⟩ := k4 (by omega)
   have e1 := flat_cells Pt.cells_len hg.out hS hc hlt; clear hc k4 k3; have NX : Hid ((l[k]'hlt).far = false -> ∀ q ∈ l.take (k + 1), q.far = false) := take_all_succ hlt hall.out; have FD : Hid ((l[k]'hlt).far = true -> fidx Pt.far l = k) := fidx_some hlt hall.out; have HI := Lh fun W (R : Ending -> World -> Prop) hR => pfar25_any (l[k]'hlt) W (R := R) hR
   generalize (l[k]'hlt).far = bi at *; generalize l[k]'hlt = x at *; obtain ⟨x1, x2⟩ := x; have c1 := e1 0 _ rfl; have c2 := e1 1 _ rfl; clear e1; simp only [Nat.add_zero] at c1; unfold Pt.cells at HI; dsimp only at HI
   cases bi with
   | false =>
    go_wp2_with (go_at_call 22; refine HI.out _ _ ?_; intro w1 hg1; have HG1 := Lh (hg.out.tr hg1); clear hg1 c1 c2)
    go_roundw
    case rel => exact ⟨k + 1, by omega, by go_num, NX.out (by first | rfl | trivial), HG1.out⟩
    case measure => simp [intOf]; omega
   | true =>
    go_wp2_with (go_at_call 22; refine HI.out _ _ ?_; intro w1 hg1; have HG1 := Lh (hg.out.tr hg1); clear hg1 c1 c2)
    have h := HR.out _ HG1.out; rw [FD.out (by first | rfl | trivial)] at h; exact h
  ·obtain rfl : k = l.length := by omega
   go_wp2; have h := HR.out _ hg.out; rw [fidx_none hall.out] at h; exact h
theorem fidx_any (l : List Pt) : (0 <= fidx Pt.far l /\ l.any Pt.far = true) ∨ (fidx Pt.far l = -1 /\ l.any Pt.far = false) := by
 unfold fidx
 cases h : l.findIdx? Pt.far with
 | none =>
  right
  rw [List.findIdx?_eq_none_iff] at h; refine ⟨rfl, ?_⟩; rw [List.any_eq_false]; intro p hp; simpa using h p hp
 | some i =>
  left
  refine ⟨by show (0 : Int) <= i; omega, ?_⟩; obtain ⟨hi, hx, _⟩ := List.findIdx?_eq_some_iff_getElem.1 h; rw [List.any_eq_true]; exact ⟨l[i], List.getElem_mem hi, hx⟩
set_option maxHeartbeats 1000000 in
theorem contains25_any (l : List Pt) (v : Value) (S : Nat -> Prop) (w : World) (hb : Rd w S 2 v l.length (Pts l)) {R : Ending -> World -> Prop}
  (hR : ∀ w', Grow w w' -> R (.returned (.bool (l.any Pt.far))) w') :
  Calls Tryz.prog 24 #[v, .func (.func 22) #[] #[]] w R := by
 have HR := Lh hR; have HX := Lh fun (R : Ending -> World -> Prop) hR => index25_any l v S w hb (R := R) hR
 clear hR hb
 rcases fidx_any l with ⟨h1, h2⟩ | ⟨h1, h2⟩
 ·rw [h2] at HR
  generalize fidx Pt.far l = i at *; clear h2; go_enter Tryz.func24, Tryz.ntmps24
  go_wp2_with (go_at_call 39; refine HX.out _ ?_; intro w1 hg1)
  exact HR.out _ hg1
 ·rw [h2] at HR
  rw [h1] at HX; clear h1 h2; go_enter Tryz.func24, Tryz.ntmps24
  go_wp2_with (go_at_call 39; refine HX.out _ ?_; intro w1 hg1)
  exact HR.out _ hg1
def lineE (l : List Pt) (lo hi : Int) : Int := if hi < lo then 1 else if (!inw lo || !inw hi || l.any Pt.far) = true then 8 else 0
end Go.Proofs.YteeeeddeacepmaaGreatDoor
namespace Go.Proofs.YteeeeddeacepmaaGreatDoor
set_option maxRecDepth 100000
open Go.RowKit Go.Lib B
set_option maxHeartbeats 400000 in
theorem ncross_any (h : Hf) (n : Node) (w : World) {R : Ending -> World -> Prop} (hR : ∀ w', Grow w w' -> R (.returned (.agg (h.cross n).cells.toArray)) w') :
  Calls Tryz.prog 41 #[.agg h.cells.toArray, .agg n.cells.toArray] w R := by
 have HR : ∀ s, h.cross n = s -> ∀ w', Grow w w' -> R (.returned (.agg s.cells.toArray)) w' := by rintro b rfl; exact hR
 have HR := Lh HR; clear hR; have CR := Lh fun W (R : Ending -> World -> Prop) hR => cross_any n.p n.q h.c h.up W (R := R) hR
 have OF := Lh fun W (R : Ending -> World -> Prop) hR => of23_any h.c W (R := R) hR
 have HV : Hid (h.cross n = if h.up = true then ⟨if n.pl = true then n.s.x else (crossS n.p n.q h.c h.up).1, ⟨h.c, 0, 1⟩⟩ else ⟨⟨h.c, 0, 1⟩, if n.pl = true then n.s.y else (crossS n.p n.q h.c h.up).1⟩) := rfl
 obtain ⟨cs, ce, hcs⟩ : ∃ f e, crossS n.p n.q h.c h.up = (f, e) := ⟨_, _, rfl⟩
 rw [hcs] at CR HV; clear hcs; obtain ⟨c, up, ab⟩ := h; obtain ⟨⟨⟨q1, r1, d1⟩, ⟨q2, r2, d2⟩⟩, ⟨px, py⟩, ⟨qx, qy⟩, pl⟩ := n; obtain ⟨q3, r3, d3⟩ := cs; unfold Pt.cells at CR; unfold Hf.cells Node.cells; dsimp only at CR OF HV ⊢
 obtain ⟨wa, hwa⟩ : ∃ wa, wa = ((w.alloc (.cells #[.int .i64 c, .bool up, .bool ab] 83)).alloc (.cells #[.int .i64 q1, .int .u64 (r1 : Nat), .int .u64 (d1 : Nat), .int .i64 q2, .int .u64 (r2 : Nat), .int .u64 (d2 : Nat), .int .i64 px, .int .i64 py, .int .i64 qx, .int .i64 qy, .bool pl] 81)).alloc (.cells #[.int .i64 0, .int .u64 0, .int .u64 0, .int .i64 0, .int .u64 0, .int .u64 0] 53) := ⟨_, rfl⟩
 have BH : Hid (BoxH w w.heap.size #[.int .i64 c, .bool up, .bool ab] 83 wa) := by
  rw [hwa]; exact ((BoxH.laid #[.int .i64 c, .bool up, .bool ab] 83 (Grow.refl w)).tr ((Grow.refl _).al _)).tr ((Grow.refl _).al _)
 have BN : Hid (BoxH w (w.heap.size + 1) #[.int .i64 q1, .int .u64 (r1 : Nat), .int .u64 (d1 : Nat), .int .i64 q2, .int .u64 (r2 : Nat), .int .u64 (d2 : Nat), .int .i64 px, .int .i64 py, .int .i64 qx, .int .i64 qy, .bool pl] 81 wa) := by
  have := (BoxH.laid (w := w.alloc (.cells #[.int .i64 c, .bool up, .bool ab] 83)) #[.int .i64 q1, .int .u64 (r1 : Nat), .int .u64 (d1 : Nat), .int .i64 q2, .int .u64 (r2 : Nat), .int .u64 (d2 : Nat), .int .i64 px, .int .i64 py, .int .i64 qx, .int .i64 qy, .bool pl] 81 ((Grow.refl w).al _)).tr ((Grow.refl _).al (.cells #[.int .i64 0, .int .u64 0, .int .u64 0, .int .i64 0, .int .u64 0, .int .u64 0] 53)); rw [World.size_alloc] at this; rw [hwa]; exact this
 have BR : Hid (BoxH w (w.heap.size + 1 + 1) #[.int .i64 0, .int .u64 0, .int .u64 0, .int .i64 0, .int .u64 0, .int .u64 0] 53 wa) := by
  have := BoxH.laid (w := (w.alloc (.cells #[.int .i64 c, .bool up, .bool ab] 83)).alloc (.cells #[.int .i64 q1, .int .u64 (r1 : Nat), .int .u64 (d1 : Nat), .int .i64 q2, .int .u64 (r2 : Nat), .int .u64 (d2 : Nat), .int .i64 px, .int .i64 py, .int .i64 qx, .int .i64 qy, .bool pl] 81)) #[.int .i64 0, .int .u64 0, .int .u64 0, .int .i64 0, .int .u64 0, .int .u64 0] 53 (((Grow.refl w).al _).al _); rw [World.size_alloc, World.size_alloc] at this; rw [hwa]; exact this
 have HWA := Lh hwa; clear hwa; have s3 := BN.out.cell 3; have s4 := BN.out.cell 4; have s5 := BN.out.cell 5; go_enter Tryz.func41, Tryz.ntmps41
 go_upto_region 1 with fail
 rw [<- HWA.out]; clear HWA; go_upto_region 2 with fail
 have FN := Lh BR.out.lt; have BF := Lh (BoxH.laid #[.int .i64 q2, .int .u64 (r2 : Nat), .int .u64 (d2 : Nat)] 27 BR.out.grow); have BH := Lh (BH.out.tr ((Grow.refl _).al (.cells #[.int .i64 q2, .int .u64 (r2 : Nat), .int .u64 (d2 : Nat)] 27))); have BN := Lh (BN.out.tr ((Grow.refl _).al (.cells #[.int .i64 q2, .int .u64 (r2 : Nat), .int .u64 (d2 : Nat)] 27))); have BR := Lh (BR.out.tr ((Grow.refl _).al (.cells #[.int .i64 q2, .int .u64 (r2 : Nat), .int .u64 (d2 : Nat)] 27))); clear s3 s4 s5
 generalize wa.alloc (.cells #[.int .i64 q2, .int .u64 (r2 : Nat), .int .u64 (d2 : Nat)] 27) = wb at *; generalize wa.heap.size = fb at *; have n1 : w.heap.size ≠ fb := by have := FN.out; omega
 have n2 : w.heap.size + 1 ≠ fb := by have := FN.out; omega
 have n3 : w.heap.size + 1 + 1 ≠ fb := by have := FN.out; omega
 have h0 := BH.out.cell 0; have h1 := BH.out.cell 1
 cases up with
 | false =>
  have p0 := BN.out.cell 10; have f0 := BF.out.cell 0; have f1 := BF.out.cell 1; have f2 := BF.out.cell 2
  cases pl with
  | true =>
   go_upto_region 6 with fail
   clear p0 f0 f1 f2; go_wp2_with fail
   clear h1; refine wp_region_lexT (fun W => BoxH w w.heap.size #[.int .i64 c, .bool false, .bool ab] 83 W /\ BoxH w fb #[.int .i64 q2, .int .u64 (r2 : Nat), .int .u64 (d2 : Nat)] 27 W /\ BoxH w (w.heap.size + 1 + 1) #[.int .i64 0, .int .u64 0, .int .u64 0, .int .i64 0, .int .u64 0, .int .u64 0] 53 W) (⟨BH.out.tr (Grow.refl _).dr, BF.out.tr (Grow.refl _).dr, BR.out.tr (Grow.refl _).dr⟩) 4 [0, 1, 3, 2] (by kernel_rfl) (by kernel_rfl) (by intro c a d v w h; cases d <;> exact h) ?_
   iterate 3 (apply lext_take; exact rfl; exact rfl; (intro W hW; have z0 := hW.1.cell 0; have z1 := hW.2.1.cell 0; have z2 := hW.2.1.cell 1; have z3 := hW.2.1.cell 2; (try clear hW); go_simp; with_reducible rfl); try simp only [Act.put, sA, sZ, sS])
   have BF := Lh (BF.out.tr (Grow.refl _).dr); have BH := Lh (BH.out.tr (Grow.refl _).dr); have BR := Lh (BR.out.tr (Grow.refl _).dr); apply lext_turn; exact rfl; exact rfl; exact rfl; intro K hK; go_simp; go_at_call 25; refine OF.out _ _ ?_; intro w5 hg5; have BF := Lh (BF.out.tr hg5); have BH := Lh (BH.out.tr hg5); have BR := Lh (BR.out.tr hg5); refine hK.out _ _ ⟨BH.out, BF.out, BR.out⟩ ?_; clear hK hg5 h0
   try simp only [Act.put, sA, sZ, sS]
   refine lext_nil ?_; simp only [List.drop_succ_cons, List.drop_zero]; have z0 := BR.out.cell 0; have g0 := BR.out.free 0; have B1 := Lh (BR.out.set 0 (.int .i64 c)); have z1 := B1.out.cell 1; have g1 := B1.out.free 1; have B2 := Lh (B1.out.set 1 (.int .u64 0)); have z2 := B2.out.cell 2; have g2 := B2.out.free 2; have B3 := Lh (B2.out.set 2 (.int .u64 1)); have z3 := B3.out.cell 3; have g3 := B3.out.free 3; have B4 := Lh (B3.out.set 3 (.int .i64 q2)); have z4 := B4.out.cell 4; have g4 := B4.out.free 4; have B5 := Lh (B4.out.set 4 (.int .u64 (r2 : Nat)))
   have z5 := B5.out.cell 5; have g5 := B5.out.free 5; have B6 := Lh (B5.out.set 5 (.int .u64 (d2 : Nat))); go_wp2; have k0 := B6.out.cell 0; have k1 := B6.out.cell 1; have k2 := B6.out.cell 2; have k3 := B6.out.cell 3; have k4 := B6.out.cell 4; have k5 := B6.out.cell 5; refine bodyPost_ret (v := .agg #[.int .i64 c, (.int .u64 0), (.int .u64 1), .int .i64 q2, (.int .u64 (r2 : Nat)), (.int .u64 (d2 : Nat))]) (by simp only [sA, sZ, sS] at k0 k1 k2 k3 k4 k5; simp [results, Tryz.f41, go_sem, k0, k1, k2, k3, k4, k5]) rfl ?_
   exact HR.out ⟨⟨c, 0, 1⟩, ⟨q2, r2, d2⟩⟩ HV.out _ B6.out.grow
  | false =>
   have c6 := BN.out.cell 6; have c7 := BN.out.cell 7; have c8 := BN.out.cell 8; have c9 := BN.out.cell 9; go_upto_region 5 with fail
   go_wp2_with fail
   clear p0 f0 f1 f2 c6 c7 c8 c9 h0 h1; go_at_call 60; refine CR.out _ _ ?_; intro w1 f e hfe hg1; obtain ⟨rfl, rfl⟩ := Prod.mk.inj hfe; have BH := Lh (BH.out.tr hg1); have BF := Lh (BF.out.tr hg1); have BR := Lh (BR.out.tr hg1); clear hg1 hfe; unfold Fr.cells; dsimp only; have g0 := BF.out.free 0; have f0 := BF.out.cell 0; have g1 := (BF.out.set 0 (.int .i64 q3)).free 1; have f1 := (BF.out.set 0 (.int .i64 q3)).cell 1; have g2 := ((BF.out.set 0 (.int .i64 q3)).set 1 (.int .u64 (r3 : Nat))).free 2; have f2 := ((BF.out.set 0 (.int .i64 q3)).set 1 (.int .u64 (r3 : Nat))).cell 2
   have BF3 := Lh (((BF.out.set 0 (.int .i64 q3)).set 1 (.int .u64 (r3 : Nat))).set 2 (.int .u64 (d3 : Nat))); have BH3 : Hid (BoxH w w.heap.size #[.int .i64 c, .bool false, .bool ab] 83 (((w1.setCell ⟨fb, 0, none⟩ (.int .i64 q3)).setCell ⟨fb, 1, none⟩ (.int .u64 (r3 : Nat))).setCell ⟨fb, 2, none⟩ (.int .u64 (d3 : Nat)))) := ((BH.out.other n1 BF.out.2.1).other n1 BF.out.2.1).other n1 BF.out.2.1
   have BR3 : Hid (BoxH w (w.heap.size + 1 + 1) #[.int .i64 0, .int .u64 0, .int .u64 0, .int .i64 0, .int .u64 0, .int .u64 0] 53 (((w1.setCell ⟨fb, 0, none⟩ (.int .i64 q3)).setCell ⟨fb, 1, none⟩ (.int .u64 (r3 : Nat))).setCell ⟨fb, 2, none⟩ (.int .u64 (d3 : Nat)))) := ((BR.out.other n3 BF.out.2.1).other n3 BF.out.2.1).other n3 BF.out.2.1; clear BF BH BR; have BF := Lh BF3.out; have BH := Lh BH3.out; have BR := Lh BR3.out; clear BF3 BH3 BR3; go_upto_region 6 with fail
   clear f0 f1 f2 g0 g1 g2; generalize ((w1.setCell ⟨fb, 0, none⟩ (.int .i64 q3)).setCell ⟨fb, 1, none⟩ (.int .u64 (r3 : Nat))).setCell ⟨fb, 2, none⟩ (.int .u64 (d3 : Nat)) = wd at *; have h0 := BH.out.cell 0; have h1 := BH.out.cell 1; go_wp2_with fail
   clear h1; refine wp_region_lexT (fun W => BoxH w w.heap.size #[.int .i64 c, .bool false, .bool ab] 83 W /\ BoxH w fb #[.int .i64 q3, .int .u64 (r3 : Nat), .int .u64 (d3 : Nat)] 27 W /\ BoxH w (w.heap.size + 1 + 1) #[.int .i64 0, .int .u64 0, .int .u64 0, .int .i64 0, .int .u64 0, .int .u64 0] 53 W) (⟨BH.out.tr (Grow.refl _).dr, BF.out.tr (Grow.refl _).dr, BR.out.tr (Grow.refl _).dr⟩) 4 [0, 1, 3, 2] (by kernel_rfl) (by kernel_rfl) (by intro c a d v w h; cases d <;> exact h) ?_
   iterate 3 (apply lext_take; exact rfl; exact rfl; (intro W hW; have z0 := hW.1.cell 0; have z1 := hW.2.1.cell 0; have z2 := hW.2.1.cell 1; have z3 := hW.2.1.cell 2; (try clear hW); go_simp; with_reducible rfl); try simp only [Act.put, sA, sZ, sS])
   have BF := Lh (BF.out.tr (Grow.refl _).dr); have BH := Lh (BH.out.tr (Grow.refl _).dr); have BR := Lh (BR.out.tr (Grow.refl _).dr); apply lext_turn; exact rfl; exact rfl; exact rfl; intro K hK; go_simp; go_at_call 25; refine OF.out _ _ ?_; intro w5 hg5; have BF := Lh (BF.out.tr hg5); have BH := Lh (BH.out.tr hg5); have BR := Lh (BR.out.tr hg5); refine hK.out _ _ ⟨BH.out, BF.out, BR.out⟩ ?_; clear hK hg5 h0
   try simp only [Act.put, sA, sZ, sS]
   refine lext_nil ?_; simp only [List.drop_succ_cons, List.drop_zero]; have z0 := BR.out.cell 0; have g0 := BR.out.free 0; have B1 := Lh (BR.out.set 0 (.int .i64 c)); have z1 := B1.out.cell 1; have g1 := B1.out.free 1; have B2 := Lh (B1.out.set 1 (.int .u64 0)); have z2 := B2.out.cell 2; have g2 := B2.out.free 2; have B3 := Lh (B2.out.set 2 (.int .u64 1)); have z3 := B3.out.cell 3; have g3 := B3.out.free 3; have B4 := Lh (B3.out.set 3 (.int .i64 q3)); have z4 := B4.out.cell 4; have g4 := B4.out.free 4; have B5 := Lh (B4.out.set 4 (.int .u64 (r3 : Nat)))
   have z5 := B5.out.cell 5; have g5 := B5.out.free 5; have B6 := Lh (B5.out.set 5 (.int .u64 (d3 : Nat))); go_wp2; have k0 := B6.out.cell 0; have k1 := B6.out.cell 1; have k2 := B6.out.cell 2; have k3 := B6.out.cell 3; have k4 := B6.out.cell 4; have k5 := B6.out.cell 5; refine bodyPost_ret (v := .agg #[.int .i64 c, (.int .u64 0), (.int .u64 1), .int .i64 q3, (.int .u64 (r3 : Nat)), (.int .u64 (d3 : Nat))]) (by simp only [sA, sZ, sS] at k0 k1 k2 k3 k4 k5; simp [results, Tryz.f41, go_sem, k0, k1, k2, k3, k4, k5]) rfl ?_
   exact HR.out ⟨⟨c, 0, 1⟩, ⟨q3, r3, d3⟩⟩ HV.out _ B6.out.grow
 | true =>
  have s0 := BN.out.cell 0; have s1 := BN.out.cell 1; have s2 := BN.out.cell 2; have g0 := BF.out.free 0; have f0 := BF.out.cell 0; have g1 := (BF.out.set 0 (.int .i64 q1)).free 1; have f1 := (BF.out.set 0 (.int .i64 q1)).cell 1; have g2 := ((BF.out.set 0 (.int .i64 q1)).set 1 (.int .u64 (r1 : Nat))).free 2; have f2 := ((BF.out.set 0 (.int .i64 q1)).set 1 (.int .u64 (r1 : Nat))).cell 2; have BF3 := Lh (((BF.out.set 0 (.int .i64 q1)).set 1 (.int .u64 (r1 : Nat))).set 2 (.int .u64 (d1 : Nat)))
  have BH3 : Hid (BoxH w w.heap.size #[.int .i64 c, .bool true, .bool ab] 83 (((wb.setCell ⟨fb, 0, none⟩ (.int .i64 q1)).setCell ⟨fb, 1, none⟩ (.int .u64 (r1 : Nat))).setCell ⟨fb, 2, none⟩ (.int .u64 (d1 : Nat)))) := ((BH.out.other n1 BF.out.2.1).other n1 BF.out.2.1).other n1 BF.out.2.1
  have BR3 : Hid (BoxH w (w.heap.size + 1 + 1) #[.int .i64 0, .int .u64 0, .int .u64 0, .int .i64 0, .int .u64 0, .int .u64 0] 53 (((wb.setCell ⟨fb, 0, none⟩ (.int .i64 q1)).setCell ⟨fb, 1, none⟩ (.int .u64 (r1 : Nat))).setCell ⟨fb, 2, none⟩ (.int .u64 (d1 : Nat)))) := ((BR.out.other n3 BF.out.2.1).other n3 BF.out.2.1).other n3 BF.out.2.1; have BN3 := Lh (((BN.out.other (j := 0) (v := .int .i64 q1) n2 BF.out.2.1).other (j := 1) (v := .int .u64 (r1 : Nat)) n2 BF.out.2.1).other (j := 2) (v := .int .u64 (d1 : Nat)) n2 BF.out.2.1); go_upto_region 4 with fail
  clear f0 f1 f2 g0 g1 g2 s0 s1 s2 BF BH BR BN h0 h1; generalize ((wb.setCell ⟨fb, 0, none⟩ (.int .i64 q1)).setCell ⟨fb, 1, none⟩ (.int .u64 (r1 : Nat))).setCell ⟨fb, 2, none⟩ (.int .u64 (d1 : Nat)) = wc at *; have BF := Lh BF3.out; have BH := Lh BH3.out; have BR := Lh BR3.out; have BN := Lh BN3.out; clear BF3 BH3 BR3 BN3; have h0 := BH.out.cell 0; have h1 := BH.out.cell 1; have p0 := BN.out.cell 10; have f0 := BF.out.cell 0; have f1 := BF.out.cell 1; have f2 := BF.out.cell 2
  cases pl with
  | true =>
   go_upto_region 6 with fail
   clear p0 f0 f1 f2; go_wp2_with fail
   clear h1; refine wp_region_lexT (fun W => BoxH w w.heap.size #[.int .i64 c, .bool true, .bool ab] 83 W /\ BoxH w fb #[.int .i64 q1, .int .u64 (r1 : Nat), .int .u64 (d1 : Nat)] 27 W /\ BoxH w (w.heap.size + 1 + 1) #[.int .i64 0, .int .u64 0, .int .u64 0, .int .i64 0, .int .u64 0, .int .u64 0] 53 W) (⟨BH.out.tr (Grow.refl _).dr, BF.out.tr (Grow.refl _).dr, BR.out.tr (Grow.refl _).dr⟩) 4 [0, 1, 2, 3] (by kernel_rfl) (by kernel_rfl) (by intro c a d v w h; cases d <;> exact h) ?_
   iterate 3 (apply lext_take; exact rfl; exact rfl; (intro W hW; have z0 := hW.1.cell 0; have z1 := hW.2.1.cell 0; have z2 := hW.2.1.cell 1; have z3 := hW.2.1.cell 2; (try clear hW); go_simp; with_reducible rfl); try simp only [Act.put, sA, sZ, sS])
   have BF := Lh (BF.out.tr (Grow.refl _).dr); have BH := Lh (BH.out.tr (Grow.refl _).dr); have BR := Lh (BR.out.tr (Grow.refl _).dr); apply lext_turn; exact rfl; exact rfl; exact rfl; intro K hK; go_simp; go_at_call 25; refine OF.out _ _ ?_; intro w5 hg5; have BF := Lh (BF.out.tr hg5); have BH := Lh (BH.out.tr hg5); have BR := Lh (BR.out.tr hg5); refine hK.out _ _ ⟨BH.out, BF.out, BR.out⟩ ?_; clear hK hg5 h0
   try simp only [Act.put, sA, sZ, sS]
   refine lext_nil ?_; simp only [List.drop_succ_cons, List.drop_zero]; have z0 := BR.out.cell 0; have g0 := BR.out.free 0; have B1 := Lh (BR.out.set 0 (.int .i64 q1)); have z1 := B1.out.cell 1; have g1 := B1.out.free 1; have B2 := Lh (B1.out.set 1 (.int .u64 (r1 : Nat))); have z2 := B2.out.cell 2; have g2 := B2.out.free 2; have B3 := Lh (B2.out.set 2 (.int .u64 (d1 : Nat))); have z3 := B3.out.cell 3; have g3 := B3.out.free 3; have B4 := Lh (B3.out.set 3 (.int .i64 c)); have z4 := B4.out.cell 4; have g4 := B4.out.free 4; have B5 := Lh (B4.out.set 4 (.int .u64 0))
   have z5 := B5.out.cell 5; have g5 := B5.out.free 5; have B6 := Lh (B5.out.set 5 (.int .u64 1)); go_wp2; have k0 := B6.out.cell 0; have k1 := B6.out.cell 1; have k2 := B6.out.cell 2; have k3 := B6.out.cell 3; have k4 := B6.out.cell 4; have k5 := B6.out.cell 5; refine bodyPost_ret (v := .agg #[.int .i64 q1, (.int .u64 (r1 : Nat)), (.int .u64 (d1 : Nat)), .int .i64 c, (.int .u64 0), (.int .u64 1)]) (by simp only [sA, sZ, sS] at k0 k1 k2 k3 k4 k5; simp [results, Tryz.f41, go_sem, k0, k1, k2, k3, k4, k5]) rfl ?_
   exact HR.out ⟨⟨q1, r1, d1⟩, ⟨c, 0, 1⟩⟩ HV.out _ B6.out.grow
  | false =>
   have c6 := BN.out.cell 6; have c7 := BN.out.cell 7; have c8 := BN.out.cell 8; have c9 := BN.out.cell 9; go_upto_region 5 with fail
   go_wp2_with fail
   clear p0 f0 f1 f2 c6 c7 c8 c9 h0 h1; go_at_call 60; refine CR.out _ _ ?_; intro w1 f e hfe hg1; obtain ⟨rfl, rfl⟩ := Prod.mk.inj hfe; have BH := Lh (BH.out.tr hg1); have BF := Lh (BF.out.tr hg1); have BR := Lh (BR.out.tr hg1); clear hg1 hfe; unfold Fr.cells; dsimp only; have g0 := BF.out.free 0; have f0 := BF.out.cell 0; have g1 := (BF.out.set 0 (.int .i64 q3)).free 1; have f1 := (BF.out.set 0 (.int .i64 q3)).cell 1; have g2 := ((BF.out.set 0 (.int .i64 q3)).set 1 (.int .u64 (r3 : Nat))).free 2; have f2 := ((BF.out.set 0 (.int .i64 q3)).set 1 (.int .u64 (r3 : Nat))).cell 2
   have BF3 := Lh (((BF.out.set 0 (.int .i64 q3)).set 1 (.int .u64 (r3 : Nat))).set 2 (.int .u64 (d3 : Nat))); have BH3 : Hid (BoxH w w.heap.size #[.int .i64 c, .bool true, .bool ab] 83 (((w1.setCell ⟨fb, 0, none⟩ (.int .i64 q3)).setCell ⟨fb, 1, none⟩ (.int .u64 (r3 : Nat))).setCell ⟨fb, 2, none⟩ (.int .u64 (d3 : Nat)))) := ((BH.out.other n1 BF.out.2.1).other n1 BF.out.2.1).other n1 BF.out.2.1
   have BR3 : Hid (BoxH w (w.heap.size + 1 + 1) #[.int .i64 0, .int .u64 0, .int .u64 0, .int .i64 0, .int .u64 0, .int .u64 0] 53 (((w1.setCell ⟨fb, 0, none⟩ (.int .i64 q3)).setCell ⟨fb, 1, none⟩ (.int .u64 (r3 : Nat))).setCell ⟨fb, 2, none⟩ (.int .u64 (d3 : Nat)))) := ((BR.out.other n3 BF.out.2.1).other n3 BF.out.2.1).other n3 BF.out.2.1; clear BF BH BR; have BF := Lh BF3.out; have BH := Lh BH3.out; have BR := Lh BR3.out; clear BF3 BH3 BR3; go_upto_region 6 with fail
   clear f0 f1 f2 g0 g1 g2; generalize ((w1.setCell ⟨fb, 0, none⟩ (.int .i64 q3)).setCell ⟨fb, 1, none⟩ (.int .u64 (r3 : Nat))).setCell ⟨fb, 2, none⟩ (.int .u64 (d3 : Nat)) = wd at *; have h0 := BH.out.cell 0; have h1 := BH.out.cell 1; go_wp2_with fail
   clear h1; refine wp_region_lexT (fun W => BoxH w w.heap.size #[.int .i64 c, .bool true, .bool ab] 83 W /\ BoxH w fb #[.int .i64 q3, .int .u64 (r3 : Nat), .int .u64 (d3 : Nat)] 27 W /\ BoxH w (w.heap.size + 1 + 1) #[.int .i64 0, .int .u64 0, .int .u64 0, .int .i64 0, .int .u64 0, .int .u64 0] 53 W) (⟨BH.out.tr (Grow.refl _).dr, BF.out.tr (Grow.refl _).dr, BR.out.tr (Grow.refl _).dr⟩) 4 [0, 1, 2, 3] (by kernel_rfl) (by kernel_rfl) (by intro c a d v w h; cases d <;> exact h) ?_
   iterate 3 (apply lext_take; exact rfl; exact rfl; (intro W hW; have z0 := hW.1.cell 0; have z1 := hW.2.1.cell 0; have z2 := hW.2.1.cell 1; have z3 := hW.2.1.cell 2; (try clear hW); go_simp; with_reducible rfl); try simp only [Act.put, sA, sZ, sS])
   have BF := Lh (BF.out.tr (Grow.refl _).dr); have BH := Lh (BH.out.tr (Grow.refl _).dr); have BR := Lh (BR.out.tr (Grow.refl _).dr); apply lext_turn; exact rfl; exact rfl; exact rfl; intro K hK; go_simp; go_at_call 25; refine OF.out _ _ ?_; intro w5 hg5; have BF := Lh (BF.out.tr hg5); have BH := Lh (BH.out.tr hg5); have BR := Lh (BR.out.tr hg5); refine hK.out _ _ ⟨BH.out, BF.out, BR.out⟩ ?_; clear hK hg5 h0
   try simp only [Act.put, sA, sZ, sS]
   refine lext_nil ?_; simp only [List.drop_succ_cons, List.drop_zero]; have z0 := BR.out.cell 0; have g0 := BR.out.free 0; have B1 := Lh (BR.out.set 0 (.int .i64 q3)); have z1 := B1.out.cell 1; have g1 := B1.out.free 1; have B2 := Lh (B1.out.set 1 (.int .u64 (r3 : Nat))); have z2 := B2.out.cell 2; have g2 := B2.out.free 2; have B3 := Lh (B2.out.set 2 (.int .u64 (d3 : Nat))); have z3 := B3.out.cell 3; have g3 := B3.out.free 3; have B4 := Lh (B3.out.set 3 (.int .i64 c)); have z4 := B4.out.cell 4; have g4 := B4.out.free 4; have B5 := Lh (B4.out.set 4 (.int .u64 0))
   have z5 := B5.out.cell 5; have g5 := B5.out.free 5; have B6 := Lh (B5.out.set 5 (.int .u64 1)); go_wp2; have k0 := B6.out.cell 0; have k1 := B6.out.cell 1; have k2 := B6.out.cell 2; have k3 := B6.out.cell 3; have k4 := B6.out.cell 4; have k5 := B6.out.cell 5; refine bodyPost_ret (v := .agg #[.int .i64 q3, (.int .u64 (r3 : Nat)), (.int .u64 (d3 : Nat)), .int .i64 c, (.int .u64 0), (.int .u64 1)]) (by simp only [sA, sZ, sS] at k0 k1 k2 k3 k4 k5; simp [results, Tryz.f41, go_sem, k0, k1, k2, k3, k4, k5]) rfl ?_
   exact HR.out ⟨⟨q3, r3, d3⟩, ⟨c, 0, 1⟩⟩ HV.out _ B6.out.grow
end Go.Proofs.YteeeeddeacepmaaGreatDoor
namespace Go.Proofs.YteeeeddeacepmaaGreatDoor
set_option maxRecDepth 100000
open Go.RowKit B
def Hf.clip1 (h : Hf) (n m : Node) : List Node :=
 (if h.has n.s = true then [n] else []) ++ (if h.has n.s = true then (if h.has m.s = true then [] else [⟨h.cross n, ⟨0, 0⟩, ⟨0, 0⟩, true⟩]) else (if h.has m.s = true then [⟨h.cross n, n.p, n.q, n.pl⟩] else []))
def cycAt {α β : Type} (f : α -> α -> List β) (l : List α) (i : Nat) : List β :=
 match l[i]?, l[(i + 1) % l.length]? with
 | some n, some m => f n m
 | _, _ => []
def cycTo {α β : Type} (f : α -> α -> List β) (l : List α) (k : Nat) : List β := (List.range k).flatMap (cycAt f l)
theorem cycTo_succ {α β : Type} (f : α -> α -> List β) (l : List α) (k : Nat) (hk : k < l.length) (hm : (k + 1) % l.length < l.length) : cycTo f l (k + 1) = cycTo f l k ++ f (l[k]) (l[(k + 1) % l.length]) := by
 unfold cycTo; rw [List.range_succ, List.flatMap_append]; congr 1
 simp [cycAt, List.getElem?_eq_getElem hk, List.getElem?_eq_getElem hm]
theorem Hf.clip1_len (h : Hf) (n m : Node) : (h.clip1 n m).length <= 2 := by
 unfold Hf.clip1
 split <;> split <;> simp
theorem cycTo_len (h : Hf) (l : List Node) : ∀ k, (cycTo h.clip1 l k).length <= 2 * k
 | 0 => by simp [cycTo]
 | k + 1 => by
  have := cycTo_len h l k; unfold cycTo at this ⊢; rw [List.range_succ, List.flatMap_append, List.length_append]
  have h2 : ([k].flatMap (cycAt h.clip1 l)).length <= 2 := by
   simp only [List.flatMap_cons, List.flatMap_nil, List.append_nil]; unfold cycAt
   split
   ·exact h.clip1_len _ _
   ·simp
  omega
def Hf.clip (h : Hf) (l : List Node) : List Node := cycTo h.clip1 l l.length
theorem el_node : Elem Tryz.prog 76 81 (.agg #[.int .i64 0, .int .u64 0, .int .u64 0, .int .i64 0, .int .u64 0, .int .u64 0, .int .i64 0, .int .i64 0, .int .i64 0, .int .i64 0, .bool false]) 11 88 := ⟨by kernel_rfl, by kernel_rfl, rfl, by decide, by decide⟩
set_option maxHeartbeats 1000000 in
theorem hclip_any (h : Hf) (l : List Node) (v : Value) (S : Nat -> Prop) (w : World) (hb : Rd w S 11 v l.length (Nodes l)) (hl : l.length <= 100000) (hok : ∀ n ∈ l, n.s.ok) {R : Ending -> World -> Prop}
  (hR : ∀ r w', w'.ownsRow w.heap.size 81 11 r (h.clip l).length (Nodes (h.clip l)) -> Grow w w' -> R (.returned r) w') :
  Calls Tryz.prog 26 #[.agg h.cells.toArray, v] w R := by
 have HR := Lh hR; have HOK := Lh hok; have hb := hb.lt (by decide); obtain ⟨_, A, c, rfl, h1, h2, h3, h4⟩ := hb; unfold maxLen at h2; clear hR hok; have HS := Lh fun (n : Node) (hn : n.s.ok) W (R : Ending -> World -> Prop) hR => has_any h n.s W hn (R := R) hR
 have XC := Lh fun (n : Node) W (R : Ending -> World -> Prop) hR => ncross_any h n W (R := R) hR
 have G1 : Grow w (w.alloc (.cells h.cells.toArray 83)) := (Grow.refl w).al _; have BH := Lh (BoxH.laid h.cells.toArray 83 (Grow.refl w)); have GA := Lh G1; have LW : Hid (w.heap.size < (w.alloc (.cells h.cells.toArray 83)).heap.size) := BH.out.lt; have HSZ : Hid (w.heap.size <= (w.alloc (.cells h.cells.toArray 83)).heap.size) := G1.size; go_enter Tryz.func26, Tryz.ntmps26
 go_upto_region 1 with fail
 generalize w.alloc (.cells h.cells.toArray 83) = w1 at *; go_wp2
 go_loopw [13, 5] (fun i s wr => ∃ (k : Nat), k <= l.length /\ i = .int .i64 k /\ wr.ownsRow w1.heap.size 81 11 s (cycTo h.clip1 l k).length (Nodes (cycTo h.clip1 l k)) /\ Hid (Grow w1 wr)) (fun i _ _ => l.length - (intOf i).toNat)
 case atStart => exact ⟨0, Nat.zero_le _, rfl, World.ownsRow_nil _ _ _ _, Grow.refl _⟩
 case round =>
  obtain ⟨k, hk, rfl, hown, hg⟩ := hrel
  by_cases hlt : k < l.length
  ·obtain ⟨b, o, rfl, hS, hc⟩ := h4 (by omega)
   have hm : (k + 1) % l.length < l.length := Nat.mod_lt _ (by omega); have e0 := fun W (h : Grow w W) => flat_cells Node.cells_len h hS hc hlt
   have e1 := fun W (h : Grow w W) => flat_cells Node.cells_len h hS hc hm
   have CS := Lh (cycTo_succ h.clip1 l k hlt hm); have CL := Lh (cycTo_len h l k); have O1 := Lh (HOK.out l[k] (List.getElem_mem hlt)); have O2 := Lh (HOK.out l[(k + 1) % l.length] (List.getElem_mem hm)); have w1' : IntKind.i64.wrap ((k : Int) + 1) = (k : Int) + 1 := IntWalk.i64_in _ (by omega)
   have w2 : ((k : Int) + 1).tmod (l.length : Int) = (((k + 1) % l.length : Nat) : Int) := by
    rw [Int.tmod_eq_emod_of_nonneg (by omega)]; exact (Int.natCast_emod (k + 1) l.length).symm
   have w3 : ((k : Int) + 1) % (l.length : Int) = (((k + 1) % l.length : Nat) : Int) := (Int.natCast_emod (k + 1) l.length).symm; have z1 : ((l.length : Int) == 0) = false := by rw [beq_eq_false_iff_ne]; omega
   have z2 : ¬ (l.length : Int) = 0 := by omega
   have z3 : ¬ l = [] := by rintro rfl; simp at hlt
   have HO := Lh hown; have GW := Lh (GA.out.tr hg.out); have BH := Lh (BH.out.tr hg.out); have OL := Lh fun kk hk => (hown.lt kk hk).2
   clear hc h4 h3 hown
   obtain ⟨m, hmm⟩ : ∃ m, (k + 1) % l.length = m := ⟨_, rfl⟩
   simp only [hmm] at *
   obtain ⟨acc, hacc⟩ : ∃ acc, cycTo h.clip1 l k = acc := ⟨_, rfl⟩
   simp only [hacc] at *; generalize l[k] = x at *; generalize l[m] = y at *; have CC : cycTo h.clip1 l (k + 1) = acc ++ ((if h.has x.s = true then [x] else []) ++ (if h.has x.s = true then (if h.has y.s = true then [] else [⟨h.cross x, ⟨0, 0⟩, ⟨0, 0⟩, true⟩]) else (if h.has y.s = true then [⟨h.cross x, x.p, x.q, x.pl⟩] else []))) := CS.out; have CS := Lh CC; clear CC; have HX := Lh (HS.out x O1.out); have HY := Lh (HS.out y O2.out); have CX := Lh (XC.out x)
   obtain ⟨b1, hb1⟩ : ∃ b, h.has x.s = b := ⟨_, rfl⟩
   obtain ⟨b2, hb2⟩ : ∃ b, h.has y.s = b := ⟨_, rfl⟩
   obtain ⟨z, hz⟩ : ∃ z, h.cross x = z := ⟨_, rfl⟩
   simp only [hb1, hb2, hz] at CS HX HY CX; clear hb1 hb2 hz hmm hacc O1 O2 HS XC; obtain ⟨⟨⟨xq1, xr1, xd1⟩, ⟨xq2, xr2, xd2⟩⟩, ⟨xa, xb⟩, ⟨xc, xe⟩, xp⟩ := x; obtain ⟨⟨⟨yq1, yr1, yd1⟩, ⟨yq2, yr2, yd2⟩⟩, ⟨ya, yb⟩, ⟨yc, ye⟩, yp⟩ := y; obtain ⟨⟨zq1, zr1, zd1⟩, ⟨zq2, zr2, zd2⟩⟩ := z; obtain ⟨hc, hu, ha⟩ := h; unfold Spot.cells Hf.cells at HX HY CX; unfold Node.cells at CX; unfold Hf.cells at BH; dsimp only at HX HY CX BH
   have GB := Lh (GW.out.al (.cells #[.int .i64 xq1, .int .u64 (xr1 : Nat), .int .u64 (xd1 : Nat), .int .i64 xq2, .int .u64 (xr2 : Nat), .int .u64 (xd2 : Nat), .int .i64 xa, .int .i64 xb, .int .i64 xc, .int .i64 xe, .bool xp] 81)); have x0 := e0 wr GW.out 0 _ rfl; have x1 := e0 wr GW.out 1 _ rfl; have x2 := e0 wr GW.out 2 _ rfl; have x3 := e0 wr GW.out 3 _ rfl; have x4 := e0 wr GW.out 4 _ rfl; have x5 := e0 wr GW.out 5 _ rfl; have x6 := e0 wr GW.out 6 _ rfl; have x7 := e0 wr GW.out 7 _ rfl; have x8 := e0 wr GW.out 8 _ rfl; have x9 := e0 wr GW.out 9 _ rfl; have x10 := e0 wr GW.out 10 _ rfl
   have y0 := e1 _ GB.out 0 _ rfl; have y1 := e1 _ GB.out 1 _ rfl; have y2 := e1 _ GB.out 2 _ rfl; have y3 := e1 _ GB.out 3 _ rfl; have y4 := e1 _ GB.out 4 _ rfl; have y5 := e1 _ GB.out 5 _ rfl; have y6 := e1 _ GB.out 6 _ rfl; have y7 := e1 _ GB.out 7 _ rfl; have y8 := e1 _ GB.out 8 _ rfl; have y9 := e1 _ GB.out 9 _ rfl; have y10 := e1 _ GB.out 10 _ rfl; simp only [Nat.add_zero] at x0 y0; clear e0 e1; go_upto_region 6 with fail
   clear x0 x1 x2 x3 x4 x5 x6 x7 x8 x9 x10 y0 y1 y2 y3 y4 y5 y6 y7 y8 y9 y10 z1 z2 z3 w1' w2 w3; have BN := Lh ((BoxH.laid #[.int .i64 xq1, .int .u64 (xr1 : Nat), .int .u64 (xd1 : Nat), .int .i64 xq2, .int .u64 (xr2 : Nat), .int .u64 (xd2 : Nat), .int .i64 xa, .int .i64 xb, .int .i64 xc, .int .i64 xe, .bool xp] 81 hg.out).tr ((Grow.refl _).al (.cells #[.int .i64 yq1, .int .u64 (yr1 : Nat), .int .u64 (yd1 : Nat), .int .i64 yq2, .int .u64 (yr2 : Nat), .int .u64 (yd2 : Nat), .int .i64 ya, .int .i64 yb, .int .i64 yc, .int .i64 ye, .bool yp] 81)))
   have BM : Hid (BoxH w1 (wr.heap.size + 1) #[.int .i64 yq1, .int .u64 (yr1 : Nat), .int .u64 (yd1 : Nat), .int .i64 yq2, .int .u64 (yr2 : Nat), .int .u64 (yd2 : Nat), .int .i64 ya, .int .i64 yb, .int .i64 yc, .int .i64 ye, .bool yp] 81 ((wr.alloc (.cells #[.int .i64 xq1, .int .u64 (xr1 : Nat), .int .u64 (xd1 : Nat), .int .i64 xq2, .int .u64 (xr2 : Nat), .int .u64 (xd2 : Nat), .int .i64 xa, .int .i64 xb, .int .i64 xc, .int .i64 xe, .bool xp] 81)).alloc (.cells #[.int .i64 yq1, .int .u64 (yr1 : Nat), .int .u64 (yd1 : Nat), .int .i64 yq2, .int .u64 (yr2 : Nat), .int .u64 (yd2 : Nat), .int .i64 ya, .int .i64 yb, .int .i64 yc, .int .i64 ye, .bool yp] 81))) := by
    have := BoxH.laid (w := wr.alloc (.cells #[.int .i64 xq1, .int .u64 (xr1 : Nat), .int .u64 (xd1 : Nat), .int .i64 xq2, .int .u64 (xr2 : Nat), .int .u64 (xd2 : Nat), .int .i64 xa, .int .i64 xb, .int .i64 xc, .int .i64 xe, .bool xp] 81)) #[.int .i64 yq1, .int .u64 (yr1 : Nat), .int .u64 (yd1 : Nat), .int .i64 yq2, .int .u64 (yr2 : Nat), .int .u64 (yd2 : Nat), .int .i64 ya, .int .i64 yb, .int .i64 yc, .int .i64 ye, .bool yp] 81 (hg.out.al (.cells #[.int .i64 xq1, .int .u64 (xr1 : Nat), .int .u64 (xd1 : Nat), .int .i64 xq2, .int .u64 (xr2 : Nat), .int .u64 (xd2 : Nat), .int .i64 xa, .int .i64 xb, .int .i64 xc, .int .i64 xe, .bool xp] 81))
    rw [World.size_alloc] at this; exact this
   have BH := Lh (BH.out.tr (((Grow.refl wr).al (.cells #[.int .i64 xq1, .int .u64 (xr1 : Nat), .int .u64 (xd1 : Nat), .int .i64 xq2, .int .u64 (xr2 : Nat), .int .u64 (xd2 : Nat), .int .i64 xa, .int .i64 xb, .int .i64 xc, .int .i64 xe, .bool xp] 81)).al (.cells #[.int .i64 yq1, .int .u64 (yr1 : Nat), .int .u64 (yd1 : Nat), .int .i64 yq2, .int .u64 (yr2 : Nat), .int .u64 (yd2 : Nat), .int .i64 ya, .int .i64 yb, .int .i64 yc, .int .i64 ye, .bool yp] 81)))
   have HO := Lh (own_grow HO.out (((Grow.refl wr).al (.cells #[.int .i64 xq1, .int .u64 (xr1 : Nat), .int .u64 (xd1 : Nat), .int .i64 xq2, .int .u64 (xr2 : Nat), .int .u64 (xd2 : Nat), .int .i64 xa, .int .i64 xb, .int .i64 xc, .int .i64 xe, .bool xp] 81)).al (.cells #[.int .i64 yq1, .int .u64 (yr1 : Nat), .int .u64 (yd1 : Nat), .int .i64 yq2, .int .u64 (yr2 : Nat), .int .u64 (yd2 : Nat), .int .i64 ya, .int .i64 yb, .int .i64 yc, .int .i64 ye, .bool yp] 81)))
   have GB := Lh (hg.out.tr (((Grow.refl wr).al (.cells #[.int .i64 xq1, .int .u64 (xr1 : Nat), .int .u64 (xd1 : Nat), .int .i64 xq2, .int .u64 (xr2 : Nat), .int .u64 (xd2 : Nat), .int .i64 xa, .int .i64 xb, .int .i64 xc, .int .i64 xe, .bool xp] 81)).al (.cells #[.int .i64 yq1, .int .u64 (yr1 : Nat), .int .u64 (yd1 : Nat), .int .i64 yq2, .int .u64 (yr2 : Nat), .int .u64 (yd2 : Nat), .int .i64 ya, .int .i64 yb, .int .i64 yc, .int .i64 ye, .bool yp] 81))); clear GW
   generalize (wr.alloc (.cells #[.int .i64 xq1, .int .u64 (xr1 : Nat), .int .u64 (xd1 : Nat), .int .i64 xq2, .int .u64 (xr2 : Nat), .int .u64 (xd2 : Nat), .int .i64 xa, .int .i64 xb, .int .i64 xc, .int .i64 xe, .bool xp] 81)).alloc (.cells #[.int .i64 yq1, .int .u64 (yr1 : Nat), .int .u64 (yd1 : Nat), .int .i64 yq2, .int .u64 (yr2 : Nat), .int .u64 (yd2 : Nat), .int .i64 ya, .int .i64 yb, .int .i64 yc, .int .i64 ye, .bool yp] 81) = w2 at *; generalize wr.heap.size = nb at *; clear hg; go_wp2_with fail
   refine wp_region_lexT (fun W => BoxH w w.heap.size #[.int .i64 hc, .bool hu, .bool ha] 83 W /\ BoxH w1 nb #[.int .i64 xq1, .int .u64 (xr1 : Nat), .int .u64 (xd1 : Nat), .int .i64 xq2, .int .u64 (xr2 : Nat), .int .u64 (xd2 : Nat), .int .i64 xa, .int .i64 xb, .int .i64 xc, .int .i64 xe, .bool xp] 81 W /\ BoxH w1 (nb + 1) #[.int .i64 yq1, .int .u64 (yr1 : Nat), .int .u64 (yd1 : Nat), .int .i64 yq2, .int .u64 (yr2 : Nat), .int .u64 (yd2 : Nat), .int .i64 ya, .int .i64 yb, .int .i64 yc, .int .i64 ye, .bool yp] 81 W) (⟨BH.out.tr (Grow.refl _).dr, BN.out.tr (Grow.refl _).dr, BM.out.tr (Grow.refl _).dr⟩) 7 [0, 1, 2, 4, 5, 6, 3] (by kernel_rfl) (by kernel_rfl) (by intro c a d v w h; cases d <;> exact h) ?_
   iterate 6 (apply lext_take; exact rfl; exact rfl; (intro W hW; have h0 := hW.1.cell 0; have h1 := hW.1.cell 1; have h2 := hW.1.cell 2; have a0 := hW.2.1.cell 0; have a1 := hW.2.1.cell 1; have a2 := hW.2.1.cell 2; have a3 := hW.2.1.cell 3; have a4 := hW.2.1.cell 4; have a5 := hW.2.1.cell 5; have b0 := hW.2.2.cell 0; have b1 := hW.2.2.cell 1; have b2 := hW.2.2.cell 2; have b3 := hW.2.2.cell 3; have b4 := hW.2.2.cell 4; have b5 := hW.2.2.cell 5; (try clear hW); go_simp; with_reducible rfl); try simp only [Act.put, sA, sZ, sS])
   apply lext_turn; exact rfl; exact rfl; exact rfl; intro K hK; go_simp; go_at_call 40; refine HX.out _ _ ?_; intro w3 hg3; have hg3 := (Grow.refl w2).dr.tr hg3; have BH := Lh (BH.out.tr hg3); have BN := Lh (BN.out.tr hg3); have HO := Lh (own_grow HO.out hg3); have GB := Lh (GB.out.tr hg3); refine hK.out _ _ ⟨BH.out, BN.out, BM.out.tr hg3⟩ ?_; clear hK hg3 BM
   try simp only [Act.put, sA, sZ, sS]
   refine lext_nil ?_; simp only [List.drop_succ_cons, List.drop_zero]; go_wp2_with fail
   go_at_call 40; refine HY.out _ _ ?_; intro w4 hg4; have BH := Lh (BH.out.tr hg4); have BN := Lh (BN.out.tr hg4); have HO := Lh (own_grow HO.out hg4); have GB := Lh (GB.out.tr hg4); clear hg4 HX HY; have n0 := BN.out.cell 0; have n1 := BN.out.cell 1; have n2 := BN.out.cell 2; have n3 := BN.out.cell 3; have n4 := BN.out.cell 4; have n5 := BN.out.cell 5; have n6 := BN.out.cell 6; have n7 := BN.out.cell 7; have n8 := BN.out.cell 8; have n9 := BN.out.cell 9; have n10 := BN.out.cell 10; have m0 := BH.out.cell 0; have m1 := BH.out.cell 1; have m2 := BH.out.cell 2
   cases b1 with
   | true =>
    simp only [if_true] at CS
    cases b2 with
    | true =>
     clear CX; go_wp2_with (at_builtin; refine wpList_newAt rfl _ _ rfl el_node HO.out rfl 1 _ rfl _ rfl (by decide) rfl (by simp [Value.oneCell']) (by have := CL.out; omega) GB.out ⟨Nat.le_refl _, GB.out.size⟩ ?_; intro v5 w5 hO5 hg5 hgr5 hb5; have HO5 := Lh hO5; have GB5 := Lh hg5; clear hO5 hg5 hgr5 hb5)
     go_roundw
     case rel => exact ⟨k + 1, by omega, by go_num, own_eq HO5.out (by rw [CS.out]; simp) (by rw [CS.out]; simp [Nodes, Node.cells]), GB5.out⟩
     case measure => simp [intOf]; omega
    | false =>
     go_wp2_with (at_builtin; refine wpList_newAt rfl _ _ rfl el_node HO.out rfl 1 _ rfl _ rfl (by decide) rfl (by simp [Value.oneCell']) (by have := CL.out; omega) GB.out ⟨Nat.le_refl _, GB.out.size⟩ ?_; intro v5 w5 hO5 hg5 hgr5 hb5; have HO5 := Lh hO5; have GB5 := Lh hg5; have BN5 := Lh (BN.out.by_ hgr5 (fun kk hk => (HO.out.lt kk hk).1) (fun e => by have := OL.out nb e.symm; omega)); have BH5 := Lh (BH.out.by_ hgr5 (fun kk hk => Nat.le_trans HSZ.out (HO.out.lt kk hk).1) (fun e => by have := (HO.out.lt _ e.symm).1; have := LW.out; omega)); clear hO5 hg5 hgr5 hb5 n0 n1 n2 n3 n4 n5 n6 n7 n8 n9 n10 m0 m1 m2; have m0 := BH5.out.cell 0; have m1 := BH5.out.cell 1; have m2 := BH5.out.cell 2; have n0 := BN5.out.cell 0; have n1 := BN5.out.cell 1; have n2 := BN5.out.cell 2; have n3 := BN5.out.cell 3; have n4 := BN5.out.cell 4; have n5 := BN5.out.cell 5; have n6 := BN5.out.cell 6; have n7 := BN5.out.cell 7; have n8 := BN5.out.cell 8; have n9 := BN5.out.cell 9; have n10 := BN5.out.cell 10)
     go_at_call 41; refine CX.out _ _ ?_; intro w6 hg6; have HO6 := Lh (own_grow HO5.out hg6); have GB6 := Lh (GB5.out.tr hg6); clear hg6 CX; go_wp2_with (at_builtin; refine wpList_newAt rfl _ _ rfl el_node HO6.out rfl 1 _ rfl _ rfl (by decide) rfl (by simp [Value.oneCell']) (by have := CL.out; omega) GB6.out ⟨Nat.le_refl _, GB6.out.size⟩ ?_; intro v5 w5 hO5 hg5 hgr5 hb5; have HO7 := Lh hO5; have GB7 := Lh hg5; clear hO5 hg5 hgr5 hb5)
     go_roundw
     case rel => exact ⟨k + 1, by omega, by go_num, own_eq HO7.out (by rw [CS.out]; simp) (by rw [CS.out]; simp [Nodes, Node.cells]), GB7.out⟩
     case measure => simp [intOf]; omega
   | false =>
    simp only [Bool.false_eq_true, if_false, List.nil_append] at CS
    cases b2 with
    | true =>
     go_wp2_with fail
     clear n0 n1 n2 n3 n4 n5 n6 n7 n8 n9 n10 m0 m1 m2; refine wp_region_lexT (fun W => BoxH w w.heap.size #[.int .i64 hc, .bool hu, .bool ha] 83 W /\ BoxH w1 nb #[.int .i64 xq1, .int .u64 (xr1 : Nat), .int .u64 (xd1 : Nat), .int .i64 xq2, .int .u64 (xr2 : Nat), .int .u64 (xd2 : Nat), .int .i64 xa, .int .i64 xb, .int .i64 xc, .int .i64 xe, .bool xp] 81 W) (⟨BH.out.tr (Grow.refl _).dr, BN.out.tr (Grow.refl _).dr⟩) 8 [0, 1, 2, 4, 5, 3, 6, 7] (by kernel_rfl) (by kernel_rfl) (by intro c a d v w h; cases d <;> exact h) ?_
     iterate 5 (apply lext_take; exact rfl; exact rfl; (intro W hW; have n0 := hW.2.cell 0; have n1 := hW.2.cell 1; have n2 := hW.2.cell 2; have n3 := hW.2.cell 3; have n4 := hW.2.cell 4; have n5 := hW.2.cell 5; have n6 := hW.2.cell 6; have n7 := hW.2.cell 7; have n8 := hW.2.cell 8; have n9 := hW.2.cell 9; have n10 := hW.2.cell 10; have m0 := hW.1.cell 0; have m1 := hW.1.cell 1; have m2 := hW.1.cell 2; (try clear hW); go_simp; with_reducible rfl); try simp only [Act.put, sA, sZ, sS])
     apply lext_turn; exact rfl; exact rfl; exact rfl; intro K hK; go_simp; go_at_call 41; refine CX.out _ _ ?_; intro w6 hg6; have hg6 := (Grow.refl w4).dr.tr hg6; have HO6 := Lh (own_grow HO.out hg6); have GB6 := Lh (GB.out.tr hg6); have BH := Lh (BH.out.tr hg6); have BN := Lh (BN.out.tr hg6); refine hK.out _ _ ⟨BH.out, BN.out⟩ ?_; clear hK hg6 CX
     try simp only [Act.put, sA, sZ, sS]
     iterate 1 (apply lext_take; exact rfl; exact rfl; (intro W hW; (try clear hW); go_simp; with_reducible rfl); try simp only [Act.put, sA, sZ, sS])
     apply lext_turn; exact rfl; exact rfl; exact rfl; intro K hK; go_simp; refine hK.out _ _ (⟨BH.out.tr ((Grow.refl _).al _), BN.out.tr ((Grow.refl _).al _)⟩) ?_; clear hK; try simp only [Act.put, sA, sZ, sS]
     refine lext_nil ?_; simp only [List.drop_succ_cons, List.drop_zero]; go_wp2_with (at_builtin; refine wpList_newAt rfl _ _ rfl el_node HO6.out rfl 1 _ rfl _ rfl (by decide) rfl (by simp [Value.oneCell']) (by have := CL.out; omega) GB6.out ⟨Nat.le_refl _, GB6.out.size⟩ ?_; intro v5 w5 hO5 hg5 hgr5 hb5; have HO7 := Lh hO5; have GB7 := Lh hg5; clear hO5 hg5 hgr5 hb5)
     go_roundw
     case rel => exact ⟨k + 1, by omega, by go_num, own_eq HO7.out (by rw [CS.out]; simp) (by rw [CS.out]; simp [Nodes, Node.cells]), GB7.out⟩
     case measure => simp [intOf]; omega
    | false =>
     clear CX; go_wp2_with fail
     go_roundw
     case rel => exact ⟨k + 1, by omega, by go_num, own_eq HO.out (by rw [CS.out]; simp) (by rw [CS.out]; simp), GB.out⟩
     case measure => simp [intOf]; omega
  ·obtain rfl : k = l.length := by omega
   go_wp2; exact HR.out _ _ (own_base hown HSZ.out) (GA.out.tr hg.out)
end Go.Proofs.YteeeeddeacepmaaGreatDoor
