import Derived.Test.YtfdjdfobhkmlpaaArounds
import Derived.Test.YtfdjdfobhkmlpaaNorm
namespace Go.Proofs.Ytfdjdfobhkmlpaa
open Go.RowKit B

theorem areaS_append : ∀ a b : List (Pt × Pt), areaS (a ++ b) = areaS a + areaS b
  | [], b => by simp [areaS]
  | x :: a, b => by simp only [List.cons_append, areaS, areaS_append a b]; omega
theorem areaS_reverse : ∀ a : List (Pt × Pt), areaS a.reverse = areaS a
  | [] => rfl
  | x :: a => by rw [List.reverse_cons, areaS_append, areaS_reverse a]; simp only [areaS]; omega
theorem areaS_swap : ∀ a : List (Pt × Pt), areaS (a.map Prod.swap) = -areaS a
  | [] => rfl
  | x :: a => by
    simp only [List.map_cons, areaS, areaS_swap a, crossT, Prod.fst_swap, Prod.snd_swap]
    rw [Int.mul_comm x.2.x, Int.mul_comm x.1.x, Int.mul_comm x.1.y, Int.mul_comm x.2.y]
    omega
theorem edges_rev (l : List Pt) : edgesL l.reverse = (((edgesL l).take (l.length - 1)).reverse ++ (edgesL l).drop (l.length - 1)).map Prod.swap := by
  apply List.ext_getElem
  · simp [edgesL_len] <;> omega
  · intro i h1 h2
    rw [edgesL_len, List.length_reverse] at h1
    rw [edgesL_at (by simpa using h1), List.getElem_map]
    by_cases hi : i < l.length - 1
    · rw [List.getElem_append_left (by simp [edgesL_len]; omega)]
      simp only [List.getElem_reverse, List.getElem_take, List.length_take, edgesL_len, List.length_reverse]
      rw [edgesL_at (by omega)]
      have e1 : (i + 1) % l.length = i + 1 := Nat.mod_eq_of_lt (by omega)
      have e2 : (l.length - 1 - 1 - i + 1) % l.length = l.length - 1 - i := by rw [Nat.mod_eq_of_lt (by omega)]; omega
      simp only [Prod.swap, Prod.mk.injEq]
      have e3 : min (l.length - 1) l.length - 1 - i = l.length - 1 - 1 - i := by omega
      simp only [e1, e3, e2]
      have e4 : l.length - 1 - (i + 1) = l.length - 1 - 1 - i := by omega
      simp only [e4]
      exact ⟨trivial, trivial⟩
    · obtain rfl : i = l.length - 1 := by omega
      rw [List.getElem_append_right (by simp [edgesL_len]), List.getElem_drop, edgesL_at (by simp only [List.length_reverse, List.length_take, edgesL_len]; omega)]
      have e1 : (l.length - 1 + 1) % l.length = 0 := by rw [Nat.sub_add_cancel (by omega)]; exact Nat.mod_self _
      have e2 : l.length - 1 + (l.length - 1 - min (l.length - 1) l.length) = l.length - 1 := by omega
      simp only [List.getElem_reverse, List.length_reverse, Prod.swap, List.length_take, edgesL_len, e2, e1, Nat.sub_self, Nat.sub_zero]
theorem areaOf_rev (l : List Pt) : areaOf l.reverse = -areaOf l := by
  rw [areaOf, edges_rev, areaS_swap, areaS_append, areaS_reverse, ← areaS_append, List.take_append_drop]; rfl
theorem rightL_rev (l : List Pt) : rightL l.reverse = rightL l := by simp [rightL]
theorem areaV_rev (l : List Pt) : areaV l.reverse = -areaV l := by
  rw [areaV, areaV, rightL_rev, areaOf_rev]; split <;> rfl
theorem areaV_bd (l : List Pt) (hl : l.length ≤ 1000) : -8796093022208000 ≤ areaV l ∧ areaV l ≤ 8796093022208000 := by
  unfold areaV
  split
  · rename_i hr
    have hin : ∀ p ∈ l, (-2097152 ≤ p.x ∧ p.x ≤ 2097152) ∧ -2097152 ≤ p.y ∧ p.y ≤ 2097152 := by
      intro p hp
      simp only [rightL, Bool.and_eq_true, List.all_eq_true] at hr
      exact Pt.inr_iff.1 (hr.2 p hp)
    have HE := edgesL_in hin
    rw [areaOf, areaS_split]
    have h1 := sumP_bd (fun x => x.1.x * x.2.y) (edgesL l) (fun x hx => by
      obtain ⟨⟨⟨a1, a2⟩, a3, a4⟩, ⟨b1, b2⟩, b3, b4⟩ := HE x hx
      exact mul_bdA ⟨a1, a2⟩ ⟨b3, b4⟩)
    have h2 := sumP_bd (fun x => x.2.x * x.1.y) (edgesL l) (fun x hx => by
      obtain ⟨⟨⟨a1, a2⟩, a3, a4⟩, ⟨b1, b2⟩, b3, b4⟩ := HE x hx
      exact mul_bdA ⟨b1, b2⟩ ⟨a3, a4⟩)
    rw [edgesL_len] at h1 h2
    generalize sumP (fun x => x.1.x * x.2.y) (edgesL l) = u at *
    generalize sumP (fun x => x.2.x * x.1.y) (edgesL l) = v at *
    omega
  · omega

end Go.Proofs.Ytfdjdfobhkmlpaa
