import Derived.Test.YteeeeddeacepmaaGreatDoorFracW
import Derived.Deep.Cut
namespace Go.Proofs.YteeeeddeacepmaaGreatDoor
set_option maxRecDepth 100000
open Go.RowKit Go.Lib B
def BoxN (w : World) (B : Nat) : Prop := ∃ cs t fr, w.heap[B]? = some (.cells cs t fr) /\ ∀ (j : Nat) k n, cs[j]? ≠ some (.int k n)
theorem BoxN.gr {w w' : World} {B : Nat} (h : BoxN w B) (hg : Grow w w') : BoxN w' B := by
 obtain ⟨cs, t, fr, h1, h2⟩ := h; exact ⟨cs, t, fr, (hg.block B (lt_of_block h1)).trans h1, h2⟩
theorem BoxN.set {w : World} {B : Nat} (h : BoxN w B) (C j : Nat) {u : Value} (hu : ∀ k n, u ≠ .int k n) : BoxN (w.setCell ⟨C, j, none⟩ u) B := by
 obtain ⟨cs, t, fr, h1, h2⟩ := h
 by_cases hc : C = B
 ·subst hc
  refine ⟨cs.setIfInBounds j u, t, fr, by simp [World.setCell, Array.getElem?_modify, h1], fun i k n => ?_⟩; rw [Array.getElem?_setIfInBounds]
  split
  ·split
   ·intro e; exact hu k n (Option.some.inj e)
   ·intro e; cases e
  ·exact h2 i k n
 ·exact ⟨cs, t, fr, by simp [World.setCell, Array.getElem?_modify, hc, h1], h2⟩
theorem Rd.away {w : World} {S : Nat -> Prop} {m : Value} {l : List Nat} {B : Nat} (h : Rd w S 1 m l.length (W64 l)) (hB : BoxN w B) : Rd w (fun b => S b /\ b ≠ B) 1 m l.length (W64 l) := by
 obtain ⟨hl, A, c, hv, h1, h2, h3, h4⟩ := h; refine ⟨hl, A, c, hv, h1, h2, h3, fun hn => ?_⟩; obtain ⟨b, o, hA, hS, hc⟩ := h4 hn; refine ⟨b, o, hA, ⟨hS, ?_⟩, hc⟩; rintro rfl; obtain ⟨cs, t, fr, k1, k2⟩ := hB; have e := hc 0 _ (W64_at l 0 hn); rw [cell_of_row _ _ _ _ _ _ k1] at e; exact k2 _ _ _ e
theorem BigR.away {w : World} {S : Nat -> Prop} {v : Value} {z : Int} {k B : Nat} (h : BigR w S v z k) (hB : BoxN w B) : BigR w (fun b => S b /\ b ≠ B) v z k := by
 obtain ⟨h1, m, h2, h3⟩ := h; exact ⟨h1, m, h2, h3.away hB⟩
theorem RatR.away {w : World} {S : Nat -> Prop} {v : Value} {n d : Int} {k j B : Nat} (h : RatR w S v n d k j) (hB : BoxN w B) : RatR w (fun b => S b /\ b ≠ B) v n d k j := by
 obtain ⟨p, A, x, c, p', A', x', c', h1, h2, h3⟩ := h; exact ⟨p, A, x, c, p', A', x', c', h1, h2.away hB, h3.away hB⟩
theorem RatR.put {w : World} {S : Nat -> Prop} {v : Value} {n d : Int} {k j B i : Nat} (h : RatR w S v n d k j) (hB : BoxN w B) (u : Value) : RatR (w.setCell ⟨B, i, none⟩ u) S v n d k j :=
 ((h.away hB).set (fun _ hb => hb.2) u).into fun _ hb => hb.1
theorem RV.rd.put {r : RV} {w : World} {S : Nat -> Prop} {k B i : Nat} (h : r.rd w S k) (hB : BoxN w B) (u : Value) : r.rd (w.setCell ⟨B, i, none⟩ u) S k := by
 obtain ⟨n, d, h1, h2, h3⟩ := h; exact ⟨n, d, h1, h2, h3.put hB u⟩
theorem rat_noint (p : Bool) (A : Option Addr) (x c : Nat) (p' : Bool) (A' : Option Addr) (x' c' : Nat) : ∀ (j : Nat) k n, (#[Value.bool p, .slice A x c, .bool p', .slice A' x' c'] : Array Value)[j]? ≠ some (.int k n) := by
 intro j k n h; rcases j with _ | _ | _ | _ | j <;> simp at h
theorem BoxN.st4 {W : World} {B : Nat} (h : BoxN W B) (C : Nat) (a : Bool) (b : Value) (c : Bool) (d : Value) (hb : ∀ k n, b ≠ .int k n) (hd : ∀ k n, d ≠ .int k n) : BoxN (st4 W C (.bool a) b (.bool c) d) B := by
 have n1 : ∀ (x : Bool) k n, Value.bool x ≠ .int k n := fun _ _ _ e => by cases e
 exact (((h.set C 0 (n1 a)).set C 1 hb).set C 2 (n1 c)).set C 3 hd
theorem sl_noint (A : Option Addr) (n c : Nat) : ∀ k m, Value.slice A n c ≠ .int k m := fun _ _ e => by cases e
end Go.Proofs.YteeeeddeacepmaaGreatDoor
namespace Go.Proofs.YteeeeddeacepmaaGreatDoor
set_option maxRecDepth 100000
open Go.RowKit Go.Lib B
end Go.Proofs.YteeeeddeacepmaaGreatDoor
