/-
  Rows that hang in a row of the call's own. No program is named here.
-/
import Derived.Test.YtfdjdfobhkmlpaaPRowD
namespace Go.Proofs.Ytfdjdfobhkmlpaa
open Go.RowKit

/-- not the block of the row v -/
def Ins (v : Value) : Nat → Prop := fun b => some b ≠ v.ownBlock
def RowsIn (w : World) (v : Value) (rows : List PRow) : Prop := ∀ r ∈ rows, r.rd w (Ins v)

theorem Rd.and_lt {w : World} {S : Nat → Prop} {size n : Nat} {v : Value} {xs : List Value} (h : Rd w S size v n xs) (h0 : 0 < size) : Rd w (fun b => S b ∧ b < w.heap.size) size v n xs := by
  have hl := h.lt h0
  obtain ⟨hl0, A, c, hv, h1, h2, h3, h4⟩ := h
  refine ⟨hl0, A, c, hv, h1, h2, h3, fun hn => ?_⟩
  obtain ⟨b, o, hA, hSb, hc⟩ := h4 hn
  have hx : 0 < xs.length := by rw [hl0]; exact Nat.mul_pos hn h0
  exact ⟨b, o, hA, ⟨hSb, World.block_lt_of_cell? w _ (hc 0 xs[0] (List.getElem?_eq_getElem hx))⟩, hc⟩

theorem RowsIn.grow {w w' : World} {v : Value} {rows : List PRow} (h : RowsIn w v rows) (hg : Grow w w') : RowsIn w' v rows := fun r hr => (h r hr).gr2 (by decide) hg

theorem Rd.ins_app {w w' : World} {size n : Nat} {v v' x : Value} {xs : List Value} (h : Rd w (Ins v) size x n xs) (h0 : 0 < size) (hg : w.grownBy w' v.ownBlock) (hb : v'.ownBlock = v.ownBlock ∨ v'.ownBlock = some (w.heap.size + 1)) : Rd w' (Ins v') size x n xs := by
  have h1 := (h.and_lt h0).by_ h0 hg (fun b hb => hb.1)
  refine h1.into fun b hb1 => ?_
  unfold Ins at hb1 ⊢
  rcases hb with hb | hb
  · rw [hb]; exact hb1.1
  · rw [hb]
    intro e
    injection e with e
    omega

theorem RowsIn.app {w w' : World} {v v' : Value} {rows : List PRow} {r : PRow} (h : RowsIn w v rows) (hr : r.rd w (Ins v)) (hg : w.grownBy w' v.ownBlock) (hb : v'.ownBlock = v.ownBlock ∨ v'.ownBlock = some (w.heap.size + 1)) : RowsIn w' v' (rows ++ [r]) := by
  intro q hq
  rcases List.mem_append.1 hq with hq | hq
  · exact (h q hq).ins_app (by decide) hg hb
  · rw [List.mem_singleton.1 hq]
    exact Rd.ins_app hr (by decide) hg hb

/-- a row laid after the row v was: not in v's block -/
theorem RowsIn.new {w1 w2 : World} {e e' base size n m : Nat} {v x : Value} {xs : List Value} {l : List Pt} (h : w1.ownsRow base e size v n xs) (h2 : w2.ownsRow w1.heap.size e' 2 x m (Pts l)) (hm : m = l.length := by rfl) : PRow.rd w2 (Ins v) ⟨x, l⟩ := by
  subst hm
  refine (Rd.own_from h2).into fun b hb => ?_
  intro e
  have := (h.lt b e.symm).2
  omega
end Go.Proofs.Ytfdjdfobhkmlpaa
