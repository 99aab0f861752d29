/-
  Rows of points: slices of slices. No program is named here.
-/
import Derived.Test.YtfdjdfobhkmlpaaPts0
namespace Go.Proofs.Ytfdjdfobhkmlpaa
open Go.RowKit

structure PRow where
  v : Value
  l : List Pt
def PRow.rd (w : World) (S : Nat → Prop) (r : PRow) : Prop := Rd w S 2 r.v r.l.length (Pts r.l)

theorem rd_cell {w W : World} {S : Nat → Prop} {v : Value} {xs : List Value} {n i b o c : Nat} (hW : Grow w W) (h : Rd w S 1 v n xs) (hv : v = .slice (some ⟨b, o, none⟩) n c) (hi : i < xs.length) : W.cell? ⟨b, o + i, none⟩ = some xs[i] := by
  obtain ⟨hl, A, c', rfl, h1, h2, h3, h4⟩ := h
  injection hv with hA _ _
  subst hA
  obtain ⟨b', o', hA, _, hc⟩ := h4 (by omega)
  injection hA with hA
  injection hA with e1 e2
  subst e1 e2
  have := hc i xs[i] (List.getElem?_eq_getElem hi)
  exact (hW.cell (World.block_lt_of_cell? w _ this)).trans this

end Go.Proofs.Ytfdjdfobhkmlpaa
