import Derived.Test.YteeeeddeacepmaaGreatDoorCore
import Derived.ProofKit
import Derived.OpenShut
import Derived.ShutString
import Derived.ChangeOld
import Derived.Deep.Slices
import Derived.Lib.SmallJoins
import Derived.SizedLaws
namespace Go.Proofs.YteeeeddeacepmaaGreatDoor
set_option maxRecDepth 100000
open Go.RowKit Go.ChangeShapes Go.WideShapes Go.Deep
section
variable {H : Type} {enc : TypeId × Value -> H} {P : Program} {w : World}
theorem choose_list {α : Type} (g : α -> List Value) (p : α -> Prop) (n : Nat) (cs : Nat -> List Value) (h : ∀ i, i < n -> ∃ a, cs i = g a /\ p a) :
  ∃ l : List α, l.length = n /\ (List.range n).flatMap cs = l.flatMap g /\ ∀ a ∈ l, p a := by
 induction n with
 | zero => exact ⟨[], rfl, rfl, by simp⟩
 | succ n ih =>
  obtain ⟨l, h1, h2, h3⟩ := ih (fun i hi => h i (by omega)); obtain ⟨a, h4, h5⟩ := h n (by omega); refine ⟨l ++ [a], by simp [h1], ?_, ?_⟩
  ·rw [List.range_succ, List.flatMap_append, List.flatMap_append, h2]
   simp [h4]
  ·intro b hb
   rcases List.mem_append.1 hb with hb | hb
   ·exact h3 b hb
   ·obtain rfl := List.mem_singleton.1 hb
    exact h5
theorem open_rd {t e : TypeId} {size fuel : Nat} {v : Value} {x : DataW H × List MemPlace} (ht : P.underlying t = some (.slice e)) (hsz : P.cellsOf e = size) (h0 : 0 < size)
  (h : DataW.trod enc P w 0 (fun _ => true) true fuel t [v] = some x) :
  ∃ (n : Nat) (cs : Nat -> List Value), Rd w (fun _ => True) size v n ((List.range n).flatMap cs) /\ ∀ i, i < n -> ∃ m y, DataW.trod enc P w 0 (fun _ => true) true m e (cs i) = some y := by
 subst hsz
 rcases open_slice ht h with ⟨h1, _⟩ | ⟨a, len, cap, m, k, D, Pl, h1, _, hl, hm, hmm, _, hx⟩
 ·obtain rfl : v = .slice none 0 0 := by simpa using h1
  exact ⟨0, fun _ => [], Rd.nil, fun i hi => by omega⟩
 ·obtain rfl : v = .slice (some a) len cap := by simpa using h1
  have hlm : len <= m := by rw [hmm]; split <;> omega
  obtain ⟨cs, hcs⟩ := choose_lt (α := List Value) (p := fun i cs' => w.cells? 0 (a.add (i * P.cellsOf e)) (P.cellsOf e) = some cs' /\ DataW.trod enc P w 0 (fun _ => true) true k e cs' = some (D i, Pl i)) (n := m) hx; refine ⟨len, cs, ⟨?_, some a, cap, rfl, hl, hm, fun hh => (nomatch hh), fun hn => ?_⟩, fun i hi => ⟨k, _, (hcs i (by omega)).2⟩⟩
  ·have hlen : ∀ n, n <= len -> ((List.range n).flatMap cs).length = n * P.cellsOf e := by
    intro n
    induction n with
    | zero => simp
    | succ n ih =>
     intro hn; rw [List.range_succ, List.flatMap_append, List.length_append, ih (by omega), Nat.add_mul]; have := (World.cells?_some (hcs n (by omega)).1).2.1; simp [this]
   exact hlen len (Nat.le_refl _)
  ·have hc0 := (hcs 0 (by omega)).1
   obtain ⟨_, hl0, hc0⟩ := World.cells?_some hc0; have hcell0 := hc0 0 h0; rw [List.getElem?_eq_getElem (by omega)] at hcell0; have hsp := World.cell?_spot hcell0; obtain ⟨b, o, sp⟩ := a
   have hsp' : sp = none := by
    simp only [Addr.add, Nat.zero_mul] at hsp; simpa using hsp
   subst hsp'; refine ⟨b, o, rfl, trivial, ?_⟩
   have key : ∀ n, n <= len -> ∀ j u, ((List.range n).flatMap cs)[j]? = some u -> w.cell? ⟨b, o + j, none⟩ = some u := by
    intro n
    induction n with
    | zero => intro _ j u hj; simp at hj
    | succ n ih =>
     intro hn j u hj; rw [List.range_succ, List.flatMap_append] at hj
     have hln : ((List.range n).flatMap cs).length = n * P.cellsOf e := by
      clear hj ih
      induction n with
      | zero => simp
      | succ n ih2 =>
       rw [List.range_succ, List.flatMap_append, List.length_append, ih2 (by omega), Nat.add_mul]; have := (World.cells?_some (hcs n (by omega)).1).2.1; simp [this]
     rcases Nat.lt_or_ge j (n * P.cellsOf e) with hlt | hge
     ·rw [List.getElem?_append_left (by omega)] at hj
      exact ih (by omega) j u hj
     ·rw [List.getElem?_append_right (by omega), hln] at hj
      have hj' : (cs n)[j - n * P.cellsOf e]? = some u := by simpa using hj
      obtain ⟨_, hl1, hc1⟩ := World.cells?_some (hcs n (by omega)).1; have hlt : j - n * P.cellsOf e < P.cellsOf e := by have := (List.getElem?_eq_some_iff.1 hj').1; omega
      have hc2 := hc1 _ hlt; rw [Addr.add_lit, Addr.add_lit] at hc2; rw [show o + j = o + n * P.cellsOf e + (j - n * P.cellsOf e) by omega, hc2, hj']
   exact key len (Nat.le_refl _)
theorem open_list {t e : TypeId} {size fuel : Nat} {v : Value} {x : DataW H × List MemPlace} {α : Type} (g : α -> List Value) (p : α -> Prop) (ht : P.underlying t = some (.slice e)) (hsz : P.cellsOf e = size) (h0 : 0 < size)
  (hel : ∀ m cs y, DataW.trod enc P w 0 (fun _ => true) true m e cs = some y -> ∃ a, cs = g a /\ p a)
  (h : DataW.trod enc P w 0 (fun _ => true) true fuel t [v] = some x) :
  ∃ l : List α, Rd w (fun _ => True) size v l.length (l.flatMap g) /\ ∀ a ∈ l, p a := by
 obtain ⟨n, cs, h1, h2⟩ := open_rd ht hsz h0 h; obtain ⟨l, h3, h4, h5⟩ := choose_list g p n cs (fun i hi => by obtain ⟨m, y, hy⟩ := h2 i hi; exact hel m _ y hy); refine ⟨l, ?_, h5⟩; rw [h3, <- h4]; exact h1
end
end Go.Proofs.YteeeeddeacepmaaGreatDoor
namespace Go.Proofs.YteeeeddeacepmaaGreatDoor
set_option maxRecDepth 100000
open Go.RowKit Go.ChangeShapes Go.WideShapes Go.Deep
section
variable {H : Type} {enc : TypeId × Value -> H} {P : Program} {w : World}
end
end Go.Proofs.YteeeeddeacepmaaGreatDoor
