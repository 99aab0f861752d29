import Derived.Test.YteeeeddeacepmaaGreatDoorLClip
namespace Go.Proofs.YteeeeddeacepmaaGreatDoor
set_option maxRecDepth 100000
open Go.RowKit B
theorem cyc_st (l : List Pt) : ∀ k, k <= l.length -> (cycTo stN l k).map Node.s = (l.take k).map wholeSpot
 | 0, _ => rfl
 | k + 1, h => by
  rw [cycTo_succ _ _ _ (by omega) (Nat.mod_lt _ (by omega)), List.map_append, cyc_st l k (by omega), List.take_succ_eq_append_getElem (by omega), List.map_append]; rfl
theorem lineE_far {l : List Pt} {lo hi : Int} (h : lineE l lo hi = 0) : lo <= hi /\ inw lo = true /\ inw hi = true /\ ∀ p ∈ l, inw p.x = true /\ inw p.y = true := by
 unfold lineE at h
 split at h
 ·omega
 ·rename_i h1
  split at h
  ·omega
  ·rename_i h2
   simp only [Bool.or_eq_true, not_or, Bool.not_eq_true', Bool.not_eq_false, Bool.not_eq_true] at h2; refine ⟨by omega, by simpa using h2.1.1, by simpa using h2.1.2, fun p hp => ?_⟩; have := List.any_eq_false.1 h2.2 p hp; unfold Pt.far at this
   cases h5 : inw p.x <;> cases h6 : inw p.y <;> simp_all
def IsRot {α : Type} (a b : List α) : Prop := ∃ u v, a = u ++ v /\ b = v ++ u
theorem IsRot.map {α β : Type} (g : α -> β) {a b : List α} (h : IsRot a b) : IsRot (a.map g) (b.map g) := by
 obtain ⟨u, v, rfl, rfl⟩ := h; exact ⟨u.map g, v.map g, by simp, by simp⟩
theorem mod_shift {i a b : Nat} (hi : i < a) : (b + i + 1) % (b + a) = if i + 1 < a then b + (i + 1) else 0 := by
 split
 ·rw [Nat.mod_eq_of_lt (by omega)]; omega
 ·rw [show b + i + 1 = b + a by omega, Nat.mod_self]
theorem cycAt_rot {α β : Type} (f : α -> α -> List β) (u v : List α) (i : Nat) (hi : i < u.length) : cycAt f (u ++ v) i = cycAt f (v ++ u) (v.length + i) := by
 unfold cycAt
 have e1 : (u ++ v)[i]? = (v ++ u)[v.length + i]? := by
  rw [List.getElem?_append_left hi, List.getElem?_append_right (by omega)]; congr 1; omega
 have e2 : (u ++ v)[(i + 1) % (u ++ v).length]? = (v ++ u)[(v.length + i + 1) % (v ++ u).length]? := by
  rw [List.length_append, List.length_append, mod_shift hi]
  by_cases h : i + 1 < u.length
  ·rw [if_pos h, Nat.mod_eq_of_lt (by omega), List.getElem?_append_left h, List.getElem?_append_right (by omega)]; congr 1; omega
  ·rw [if_neg h]
   obtain rfl | hv := Nat.eq_zero_or_pos v.length |>.imp List.eq_nil_of_length_eq_zero id
   ·have : i + 1 = u.length := by omega
    simp [this]
   ·rw [Nat.mod_eq_of_lt (by omega), List.getElem?_append_right (by omega), List.getElem?_append_left hv]
    congr 1
    omega
 rw [e1, e2]
theorem flat_congr {β : Type} {F G : Nat -> List β} : ∀ n, (∀ i, i < n -> F i = G i) -> (List.range n).flatMap F = (List.range n).flatMap G := by
 intro n
 induction n with
 | zero => intro _; rfl
 | succ n ih =>
  intro h; rw [List.range_succ, List.flatMap_append, List.flatMap_append, ih fun i hi => h i (by omega)]; simp [h n (by omega)]
theorem flat_shift {β : Type} (F : Nat -> List β) (m : Nat) : ∀ n, (List.range (m + n)).flatMap F = (List.range m).flatMap F ++ (List.range n).flatMap (fun i => F (m + i)) := by
 intro n
 induction n with
 | zero => simp
 | succ n ih =>
  rw [<- Nat.add_assoc, List.range_succ, List.flatMap_append, ih, List.range_succ, List.flatMap_append, List.append_assoc]; simp
theorem cyc_rot {α β : Type} (f : α -> α -> List β) {a b : List α} (h : IsRot a b) : IsRot (cycTo f a a.length) (cycTo f b b.length) := by
 obtain ⟨u, v, rfl, rfl⟩ := h; refine ⟨(List.range u.length).flatMap (cycAt f (u ++ v)), (List.range v.length).flatMap (cycAt f (v ++ u)), ?_, ?_⟩
 ·unfold cycTo
  rw [List.length_append, flat_shift]; congr 1
  exact flat_congr _ fun i hi => (cycAt_rot f v u i hi).symm
 ·unfold cycTo
  rw [List.length_append, flat_shift]; congr 1
  exact flat_congr _ fun i hi => (cycAt_rot f u v i hi).symm
end Go.Proofs.YteeeeddeacepmaaGreatDoor
namespace Go.Proofs.YteeeeddeacepmaaGreatDoor
set_option maxRecDepth 100000
open Go.RowKit B
def co (up : Bool) (p : Pt) : Int := if up = true then p.y else p.x
structure WG (p q : Pt) (lo hi : Int) (a : Wn) : Prop where
 pos : 0 < a.d
 ge : 0 <= a.n
 le : a.n <= a.d
 en : a.en = true -> a.d = 1
 at_ : a.en = false -> (a.c = lo ∨ a.c = hi) /\ co a.up p ≠ co a.up q /\ a.d = max (co a.up q - co a.up p) (co a.up p - co a.up q) /\ a.n = (a.c - co a.up p) * (if co a.up q < co a.up p then -1 else 1)
theorem WG.met {p q : Pt} {lo hi : Int} {a : Wn} (h : WG p q lo hi a) (he : a.en = false) : if a.up = true then noneB p.swap q.swap a.c = false else noneB p q a.c = false := by
 obtain ⟨h1, h2, h3, h4⟩ := h.at_ he; have g := h.ge; have l := h.le
 have key : min (co a.up p) (co a.up q) <= a.c /\ a.c <= max (co a.up p) (co a.up q) := by
  split at h4 <;> omega
 cases hu : a.up with
 | true =>
  rw [hu] at key h2; unfold co at key h2; simp only [if_true] at key h2; show noneB p.swap q.swap a.c = false; unfold noneB Pt.swap; simp only [Bool.or_eq_false_iff, decide_eq_false_iff_not]; omega
 | false =>
  rw [hu] at key h2; unfold co at key h2; simp only [Bool.false_eq_true, if_false] at key h2; show noneB p q a.c = false; unfold noneB; simp only [Bool.or_eq_false_iff, decide_eq_false_iff_not]; omega
end Go.Proofs.YteeeeddeacepmaaGreatDoor
namespace Go.Proofs.YteeeeddeacepmaaGreatDoor
set_option maxRecDepth 100000
open Go.RowKit B
theorem lineE_zero {l : List Pt} {lo hi : Int} : lineE l lo hi = 0 ↔ lo <= hi /\ inw lo = true /\ inw hi = true /\ ∀ p ∈ l, p.far = false := by
 unfold lineE
 constructor
 ·intro h
  split at h
  ·omega
  ·split at h
   ·omega
   ·rename_i h1 h2
    simp only [Bool.or_eq_true, not_or, Bool.not_eq_true', Bool.not_eq_false, Bool.not_eq_true] at h2; exact ⟨by omega, by simpa using h2.1.1, by simpa using h2.1.2, fun p hp => by simpa using List.any_eq_false.1 h2.2 p hp⟩
 ·rintro ⟨h1, h2, h3, h4⟩
  rw [if_neg (by omega), h2, h3]; have : l.any Pt.far = false := List.any_eq_false.2 fun p hp => by rw [h4 p hp]; decide
  rw [this]; rfl
end Go.Proofs.YteeeeddeacepmaaGreatDoor
namespace Go.Proofs.YteeeeddeacepmaaGreatDoor
set_option maxRecDepth 100000
open Go.RowKit B
theorem WG.frac {p q : Pt} {lo hi : Int} {a : Wn} (h : WG p q lo hi a) (hp : p.far = false) (hq : q.far = false) (hl : inw lo = true) (hh : inw hi = true) (he : a.en = false) : inw a.c = true /\ (crossS p q a.c a.up).1.right = true := by
 have hw : inw a.c = true := by
  rcases (h.at_ he).1 with e | e <;> rw [e] <;> assumption
 refine ⟨hw, ?_⟩; have hm := h.met he; unfold crossS; rw [hp, hq, hw]; simp only [Bool.false_or, Bool.not_true, Bool.false_eq_true, if_false]
 cases hu : a.up with
 | true =>
  rw [hu] at hm; simp only [if_true] at hm ⊢; unfold crossC; rw [hm]; exact (cross_is (by rw [Pt.swap_far]; exact hp) (by rw [Pt.swap_far]; exact hq) hm).1
 | false =>
  rw [hu] at hm; simp only [Bool.false_eq_true, if_false] at hm ⊢; unfold crossC; rw [hm]; exact (cross_is hp hq hm).1
end Go.Proofs.YteeeeddeacepmaaGreatDoor
