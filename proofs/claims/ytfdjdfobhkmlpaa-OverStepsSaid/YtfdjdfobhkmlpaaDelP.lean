/-
  What slices.DeleteFunc does, in plain lists. No program is named here.
-/
namespace Go.Proofs.Ytfdjdfobhkmlpaa
variable {α : Type}

structure DelInv (keep : α → Bool) (l d : List α) (i j : Nat) : Prop where
  len : d.length = l.length
  lt : i < j
  le : j ≤ l.length
  low : d.take i = (l.take j).filter keep
  high : d.drop j = l.drop j

theorem DelInv.start {keep : α → Bool} {l : List α} {i : Nat} (hi : i < l.length) (h : ∀ q ∈ l.take i, keep q = true) (hx : keep l[i] = false) : DelInv keep l l i (i + 1) := by
  refine ⟨rfl, Nat.lt_succ_self i, hi, ?_, rfl⟩
  rw [List.take_succ_eq_append_getElem hi, List.filter_append, List.filter_eq_self.2 h]
  simp [hx]
theorem DelInv.at_ {keep : α → Bool} {l d : List α} {i j : Nat} (h : DelInv keep l d i j) (hj : j < l.length) : d[j]'(by have := h.len; omega) = l[j] := by
  have h1 : d[j]? = l[j]? := by
    have := congrArg (fun x => x[0]?) h.high
    simpa using this
  rw [List.getElem?_eq_getElem hj, List.getElem?_eq_getElem (by have := h.len; omega)] at h1
  exact Option.some.inj h1
theorem DelInv.skip {keep : α → Bool} {l d : List α} {i j : Nat} (h : DelInv keep l d i j) (hj : j < l.length) (hx : keep l[j] = false) : DelInv keep l d i (j + 1) := by
  refine ⟨h.len, Nat.lt_succ_of_lt h.lt, hj, ?_, ?_⟩
  · rw [List.take_succ_eq_append_getElem hj, List.filter_append, h.low]
    simp [hx]
  · rw [← List.drop_drop, h.high, List.drop_drop]
theorem DelInv.keep {keep : α → Bool} {l d : List α} {i j : Nat} (h : DelInv keep l d i j) (hj : j < l.length) (hx : keep l[j] = true) : DelInv keep l (d.set i l[j]) (i + 1) (j + 1) := by
  have hl := h.len
  have hij := h.lt
  refine ⟨by rw [List.length_set]; exact h.len, by omega, hj, ?_, ?_⟩
  · rw [List.take_succ_eq_append_getElem hj, List.filter_append, List.take_succ_eq_append_getElem (by rw [List.length_set]; omega), List.take_set_of_le (Nat.le_refl i), h.low]
    simp [hx]
  · rw [List.drop_set_of_lt (by omega), ← List.drop_drop, h.high, List.drop_drop]
theorem DelInv.done {keep : α → Bool} {l d : List α} {i : Nat} (h : DelInv keep l d i l.length) : d.take i = l.filter keep := by
  rw [h.low, List.take_length]
theorem DelInv.cnt {keep : α → Bool} {l d : List α} {i : Nat} (h : DelInv keep l d i l.length) : (l.filter keep).length = i := by
  have := h.lt
  have := h.len
  rw [← h.done, List.length_take]
  omega
end Go.Proofs.Ytfdjdfobhkmlpaa
