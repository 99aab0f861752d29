/-
  The place of the first point that meets a predicate. No program is named here.
-/
import Derived.Test.YtfdjdfobhkmlpaaPts0
namespace Go.Proofs.Ytfdjdfobhkmlpaa
open Go.RowKit

theorem grow_cell {w W : World} {a : Addr} {v : Value} (hg : Grow w W) (h : w.cell? a = some v) : W.cell? a = some v := (hg.cell (World.block_lt_of_cell? w _ h)).trans h
/-- the place of the first point of which pr is true, or -1 -/
def fidx (pr : Pt → Bool) (l : List Pt) : Int := match l.findIdx? pr with | some i => (i : Int) | none => -1

theorem take_all_succ {α : Type} {pr : α → Bool} {l : List α} {k : Nat} (hk : k < l.length) (h : ∀ q ∈ l.take k, pr q = false) (hx : pr l[k] = false) : ∀ q ∈ l.take (k + 1), pr q = false := by
  intro q hq
  rw [List.take_succ_eq_append_getElem hk] at hq
  rcases List.mem_append.1 hq with hq | hq
  · exact h q hq
  · rw [List.mem_singleton.1 hq]; exact hx
theorem fidx_none {pr : Pt → Bool} {l : List Pt} (h : ∀ q ∈ l.take l.length, pr q = false) : fidx pr l = -1 := by
  rw [List.take_length] at h
  have : l.findIdx? pr = none := by rw [List.findIdx?_eq_none_iff]; exact h
  simp [fidx, this]
theorem fidx_some {pr : Pt → Bool} {l : List Pt} {k : Nat} (hk : k < l.length) (h : ∀ q ∈ l.take k, pr q = false) (hx : pr l[k] = true) : fidx pr l = k := by
  have : l.findIdx? pr = some k := by
    rw [List.findIdx?_eq_some_iff_getElem]
    refine ⟨hk, hx, fun j hj => ?_⟩
    rw [h l[j] (by rw [List.mem_take_iff_getElem]; exact ⟨j, by omega, rfl⟩)]
    simp
  simp [fidx, this]

end Go.Proofs.Ytfdjdfobhkmlpaa
