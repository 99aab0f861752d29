import Derived.Test.YteeeeddeacepmaaGreatDoorLnA
import Derived.Test.YteeeeddeacepmaaGreatDoorRLa
namespace Go.Proofs.YteeeeddeacepmaaGreatDoor
set_option maxRecDepth 100000
open Go.RowKit B
structure PtQ where
 x : Rat
 y : Rat
def Spot.pq (s : Spot) : PtQ := ⟨s.x.val, s.y.val⟩
def Spot.rt (s : Spot) : Prop := s.x.right = true /\ s.y.right = true
def Pt.pq (p : Pt) : PtQ := ⟨(p.x : Rat), (p.y : Rat)⟩
def onQ (p q : Pt) (t : Rat) : PtQ := ⟨(p.x : Rat) + ((q.x - p.x : Int) : Rat) * t, (p.y : Rat) + ((q.y - p.y : Int) : Rat) * t⟩
def Wn.val (a : Wn) : Rat := (a.n : Rat) / (a.d : Rat)
theorem crossF_val {p q : Pt} {c : Int} (hp : p.far = false) (hq : q.far = false) (hn : noneB p q c = false) :
  (crossF p q c).val = (p.y : Rat) + ((c - p.x : Int) : Rat) * ((q.y - p.y : Int) : Rat) / ((q.x - p.x : Int) : Rat) := by
 obtain ⟨hr, hv⟩ := cross_is hp hq hn; obtain ⟨hx, -⟩ := noneB_false hn; generalize crossF p q c = f at *; obtain ⟨-, hd, -⟩ := Fr.right_iff hr; have hd' : (0 : Rat) < ((f.d : Int) : Rat) := cast_pos (by omega); have hq0 : ((q.x - p.x : Int) : Rat) ≠ 0 := by exact_mod_cast (show q.x - p.x ≠ 0 by omega)
 have hv' : (((f.q * f.d + f.r) * (crossD p q : Int) : Int) : Rat) = (((p.y * (crossD p q : Int) + crossX p q c) * f.d : Int) : Rat) := by exact_mod_cast hv
 unfold Fr.val; unfold crossX at hv'
 by_cases hc : q.x - p.x < 0
 ·have e : ((crossD p q : Nat) : Int) = -(q.x - p.x) := by unfold crossD; omega
  rw [if_pos hc, e] at hv'; push_cast at hv' hd' hq0 ⊢
  grind
 ·have e : ((crossD p q : Nat) : Int) = q.x - p.x := by unfold crossD; omega
  rw [if_neg hc, e] at hv'; push_cast at hv' hd' hq0 ⊢
  grind
theorem whole_right {n : Int} (h : inw n = true) : (⟨n, 0, 1⟩ : Fr).right = true := by
 simp only [inw, Bool.and_eq_true, decide_eq_true_eq] at h; simp [Fr.right, inw, h]
theorem whole_val (n : Int) : (⟨n, 0, 1⟩ : Fr).val = (n : Rat) := by
 unfold Fr.val; dsimp only; have : (((0 : Nat) : Rat)) = 0 := rfl; rw [this]; grind
theorem onQ_0 (p q : Pt) : onQ p q 0 = p.pq := by
 unfold onQ Pt.pq; rw [PtQ.mk.injEq]
 constructor <;> grind
theorem onQ_1 (p q : Pt) : onQ p q 1 = q.pq := by
 unfold onQ Pt.pq; rw [PtQ.mk.injEq]; push_cast
 constructor <;> grind
end Go.Proofs.YteeeeddeacepmaaGreatDoor
namespace Go.Proofs.YteeeeddeacepmaaGreatDoor
set_option maxRecDepth 100000
open Go.RowKit B
end Go.Proofs.YteeeeddeacepmaaGreatDoor
namespace Go.Proofs.YteeeeddeacepmaaGreatDoor
set_option maxRecDepth 100000
open Go.RowKit B
end Go.Proofs.YteeeeddeacepmaaGreatDoor
