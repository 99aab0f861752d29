import Derived.Test.YtfdjdfobhkmlpaaRAround
namespace Go.Proofs.Ytfdjdfobhkmlpaa
open Go.RowKit B

theorem delta_left {p : Pt} {x : Pt × Pt} (h1 : x.1.x < p.x) (h2 : x.2.x < p.x) : delta p x = 0 := by
  obtain ⟨⟨a1, a2⟩, ⟨b1, b2⟩⟩ := x
  obtain ⟨p1, p2⟩ := p
  dsimp only at h1 h2
  have e : sideI ⟨a1, a2⟩ ⟨b1, b2⟩ ⟨p1, p2⟩ = -((p1 - b1) * (p2 - a2)) - (p1 - a1) * (b2 - p2) := by
    simp only [sideI]; grind
  unfold delta upB dnB
  rw [e]
  dsimp only
  split
  · rename_i h
    simp only [Bool.and_eq_true, decide_eq_true_eq] at h
    have m1 := Int.mul_nonneg (show 0 ≤ p1 - b1 by omega) (show 0 ≤ p2 - a2 by omega)
    have m2 := Int.mul_nonneg (show 0 ≤ p1 - a1 by omega) (show 0 ≤ b2 - p2 by omega)
    omega
  · split
    · rename_i h
      simp only [Bool.and_eq_true, decide_eq_true_eq] at h
      have m1 := Int.mul_nonneg (show 0 ≤ p1 - b1 by omega) (show 0 ≤ a2 - p2 by omega)
      have m2 := Int.mul_nonneg (show 0 ≤ p1 - a1 by omega) (show 0 ≤ p2 - b2 by omega)
      have e1 : (p1 - b1) * (p2 - a2) = -((p1 - b1) * (a2 - p2)) := by rw [← Int.mul_neg, Int.neg_sub]
      have e2 : (p1 - a1) * (b2 - p2) = -((p1 - a1) * (p2 - b2)) := by rw [← Int.mul_neg, Int.neg_sub]
      omega
    · rfl
theorem sumP_zero (f : Pt × Pt → Int) : ∀ l : List (Pt × Pt), (∀ x ∈ l, f x = 0) → sumP f l = 0
  | [], _ => rfl
  | x :: l, h => by
    have := sumP_zero f l (fun y hy => h y (List.mem_cons_of_mem _ hy))
    have := h x (List.mem_cons_self ..)
    simp only [sumP]; omega
theorem edgesL_mem {l : List Pt} {x : Pt × Pt} (hx : x ∈ edgesL l) : x.1 ∈ l ∧ x.2 ∈ l := by
  obtain ⟨i, hi, rfl⟩ := List.getElem_of_mem hx
  rw [edgesL_len] at hi
  rw [edgesL_at hi]
  exact ⟨List.getElem_mem hi, List.getElem_mem (Nat.mod_lt (i + 1) (show 0 < l.length by omega))⟩
theorem arN_left {l : List Pt} {p : Pt} (h : l.all (fun q => decide (q.x < p.x)) = true) : arN l p = 0 := by
  simp only [List.all_eq_true, decide_eq_true_eq] at h
  unfold arN
  split
  · split
    · rfl
    · exact sumP_zero _ _ fun x hx => delta_left (h _ (edgesL_mem hx).1) (h _ (edgesL_mem hx).2)
  · rfl

end Go.Proofs.Ytfdjdfobhkmlpaa
