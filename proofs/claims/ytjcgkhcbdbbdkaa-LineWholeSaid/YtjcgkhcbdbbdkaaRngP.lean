/-
  Rings clipped at a window, in plain Lean: a ring that lies in it; a ring that begins elsewhere.
-/
import Derived.Test.YtjcgkhcbdbbdkaaChecked
import Derived.Test.YtjcgkhcbdbbdkaaRngL
namespace Go.Proofs.Ytjcgkhcbdbbdkaa
open Go.RowKit B

theorem clip_all {h : Hf} {l : List Node} (hl : ∀ n ∈ l, h.has n.s = true) : h.clip l = l := by
  have H : ∀ k, k ≤ l.length → cycTo h.clip1 l k = l.take k := by
    intro k
    induction k with
    | zero => intro _; rfl
    | succ k ih =>
      intro hk
      have hm : (k + 1) % l.length < l.length := Nat.mod_lt _ (by omega)
      rw [cycTo_succ _ _ _ (by omega) hm, ih (by omega), List.take_succ_eq_append_getElem (by omega)]
      congr 1
      unfold Hf.clip1
      rw [if_pos (hl _ (List.getElem_mem _)), if_pos (hl _ (List.getElem_mem _)), if_pos (hl _ (List.getElem_mem _))]
      rfl
  have := H l.length (Nat.le_refl _)
  rwa [List.take_length] at this
theorem cyc_st (l : List Pt) : ∀ k, k ≤ l.length → (cycTo stN l k).map Node.s = (l.take k).map wholeSpot
  | 0, _ => rfl
  | k + 1, h => by
    rw [cycTo_succ _ _ _ (by omega) (Nat.mod_lt _ (by omega)), List.map_append, cyc_st l k (by omega), List.take_succ_eq_append_getElem (by omega), List.map_append]
    rfl
theorem fcmp_whole {x c : Int} (hx : inw x = true) : fcmpS ⟨x, 0, 1⟩ c = cmpI' x c := by
  have hr : Fr.right ⟨x, 0, 1⟩ = true := by simp [Fr.right, hx]
  unfold fcmpS
  rw [if_pos hr]
  simp only [orL]
  by_cases h : cmpI' x c = 0
  · rw [if_neg (by simpa using h), if_neg (by simp [cmpI'])]
    exact h.symm
  · rw [if_pos h]
theorem cmpI'_ge {x c : Int} : 0 ≤ cmpI' x c ↔ c ≤ x := by unfold cmpI'; split <;> (try split) <;> omega
theorem cmpI'_le {x c : Int} : cmpI' x c ≤ 0 ↔ x ≤ c := by unfold cmpI'; split <;> (try split) <;> omega
theorem lineE_far {l : List Pt} {lo hi : Int} (h : lineE l lo hi = 0) : lo ≤ hi ∧ inw lo = true ∧ inw hi = true ∧ ∀ p ∈ l, inw p.x = true ∧ inw p.y = true := by
  unfold lineE at h
  split at h
  · omega
  · rename_i h1
    split at h
    · omega
    · rename_i h2
      simp only [Bool.or_eq_true, not_or, Bool.not_eq_true', Bool.not_eq_false, Bool.not_eq_true] at h2
      refine ⟨by omega, by simpa using h2.1.1, by simpa using h2.1.2, fun p hp => ?_⟩
      have := List.any_eq_false.1 h2.2 p hp
      unfold Pt.far at this
      cases h5 : inw p.x <;> cases h6 : inw p.y <;> simp_all
/-- P25.2: a ring that lies in the window is itself -/
theorem ring_inside {l : List Pt} {lo hi : Int} (he : lineE l lo hi = 0) (hi' : l.all (fun p => p.inside lo hi) = true) : ringR l lo hi = l.map wholeSpot := by
  obtain ⟨_, _, _, hf⟩ := lineE_far he
  have key : ∀ h ∈ halves lo hi, ∀ n ∈ cycTo stN l l.length, h.has n.s = true := by
    intro h hh n hn
    obtain ⟨a, ha, b, hb, hx⟩ := mem_cyc hn
    rw [List.mem_singleton.1 hx]
    have hp := List.all_eq_true.1 hi' a ha
    simp only [Pt.inside, Bool.and_eq_true, decide_eq_true_eq] at hp
    obtain ⟨⟨⟨p1, p2⟩, p3⟩, p4⟩ := hp
    have fx := fun c => fcmp_whole (c := c) (hf a ha).1
    have fy := fun c => fcmp_whole (c := c) (hf a ha).2
    simp only [halves, List.mem_cons, List.not_mem_nil, or_false] at hh
    rcases hh with rfl | rfl | rfl | rfl <;> simp only [Hf.has, wholeSpot, if_true, Bool.false_eq_true, if_false, fx, fy, decide_eq_true_eq, cmpI'_ge, cmpI'_le] <;> omega
  have fold : ∀ hs : List Hf, (∀ h ∈ hs, h ∈ halves lo hi) → hs.foldl (fun ns h => h.clip ns) (cycTo stN l l.length) = cycTo stN l l.length := by
    intro hs
    induction hs with
    | nil => intro _; rfl
    | cons h hs ih =>
      intro hm
      rw [List.foldl_cons, clip_all (key h (hm h (by simp)))]
      exact ih fun g hg => hm g (by simp [hg])
  unfold ringR ringS ringTo
  rw [if_pos he, fold _ (fun h hh => List.mem_of_mem_take hh), cyc_st l _ (Nat.le_refl _), List.take_length]

/-- b is a, begun elsewhere -/
def IsRot {α : Type} (a b : List α) : Prop := ∃ u v, a = u ++ v ∧ b = v ++ u
theorem IsRot.map {α β : Type} (g : α → β) {a b : List α} (h : IsRot a b) : IsRot (a.map g) (b.map g) := by
  obtain ⟨u, v, rfl, rfl⟩ := h
  exact ⟨u.map g, v.map g, by simp, by simp⟩
theorem mod_shift {i a b : Nat} (hi : i < a) : (b + i + 1) % (b + a) = if i + 1 < a then b + (i + 1) else 0 := by
  split
  · rw [Nat.mod_eq_of_lt (by omega)]; omega
  · rw [show b + i + 1 = b + a by omega, Nat.mod_self]
theorem cycAt_rot {α β : Type} (f : α → α → List β) (u v : List α) (i : Nat) (hi : i < u.length) : cycAt f (u ++ v) i = cycAt f (v ++ u) (v.length + i) := by
  unfold cycAt
  have e1 : (u ++ v)[i]? = (v ++ u)[v.length + i]? := by
    rw [List.getElem?_append_left hi, List.getElem?_append_right (by omega)]; congr 1; omega
  have e2 : (u ++ v)[(i + 1) % (u ++ v).length]? = (v ++ u)[(v.length + i + 1) % (v ++ u).length]? := by
    rw [List.length_append, List.length_append, mod_shift hi]
    by_cases h : i + 1 < u.length
    · rw [if_pos h, Nat.mod_eq_of_lt (by omega), List.getElem?_append_left h, List.getElem?_append_right (by omega)]; congr 1; omega
    · rw [if_neg h]
      obtain rfl | hv := Nat.eq_zero_or_pos v.length |>.imp List.eq_nil_of_length_eq_zero id
      · have : i + 1 = u.length := by omega
        simp [this]
      · rw [Nat.mod_eq_of_lt (by omega), List.getElem?_append_right (by omega), List.getElem?_append_left hv]
        congr 1
        omega
  rw [e1, e2]
theorem flat_congr {β : Type} {F G : Nat → List β} : ∀ n, (∀ i, i < n → F i = G i) → (List.range n).flatMap F = (List.range n).flatMap G := by
  intro n
  induction n with
  | zero => intro _; rfl
  | succ n ih =>
    intro h
    rw [List.range_succ, List.flatMap_append, List.flatMap_append, ih fun i hi => h i (by omega)]
    simp [h n (by omega)]
theorem flat_shift {β : Type} (F : Nat → List β) (m : Nat) : ∀ n, (List.range (m + n)).flatMap F = (List.range m).flatMap F ++ (List.range n).flatMap (fun i => F (m + i)) := by
  intro n
  induction n with
  | zero => simp
  | succ n ih =>
    rw [← Nat.add_assoc, List.range_succ, List.flatMap_append, ih, List.range_succ, List.flatMap_append, List.append_assoc]
    simp
theorem cyc_rot {α β : Type} (f : α → α → List β) {a b : List α} (h : IsRot a b) : IsRot (cycTo f a a.length) (cycTo f b b.length) := by
  obtain ⟨u, v, rfl, rfl⟩ := h
  refine ⟨(List.range u.length).flatMap (cycAt f (u ++ v)), (List.range v.length).flatMap (cycAt f (v ++ u)), ?_, ?_⟩
  · unfold cycTo
    rw [List.length_append, flat_shift]
    congr 1
    exact flat_congr _ fun i hi => (cycAt_rot f v u i hi).symm
  · unfold cycTo
    rw [List.length_append, flat_shift]
    congr 1
    exact flat_congr _ fun i hi => (cycAt_rot f u v i hi).symm
theorem ring_rot {a b : List Pt} (lo hi : Int) (h : IsRot a b) : IsRot (ringS a lo hi) (ringS b lo hi) := by
  unfold ringS ringTo
  refine IsRot.map _ ?_
  have h0 := cyc_rot stN h
  generalize (halves lo hi).take 4 = hs
  generalize cycTo stN a a.length = x at h0
  generalize cycTo stN b b.length = y at h0
  induction hs generalizing x y with
  | nil => exact h0
  | cons g hs ih => exact ih _ _ (cyc_rot g.clip1 h0)
theorem lineE_rot {u v : List Pt} {lo hi : Int} : lineE (v ++ u) lo hi = lineE (u ++ v) lo hi := by
  unfold lineE
  rw [List.any_append, List.any_append, Bool.or_comm (v.any _)]
/-- where it begins -/
theorem rot_at {α : Type} {a b : List α} (h : IsRot a b) (h0 : a ≠ []) : ∃ i, i < a.length ∧ ∀ m (hm : m < b.length), a[(i + m) % a.length]? = some (b[m]) := by
  obtain ⟨u, v, rfl, rfl⟩ := h
  by_cases hv : v = []
  · subst hv
    simp only [List.append_nil, List.nil_append] at h0 ⊢
    refine ⟨0, List.length_pos_iff.2 h0, fun m hm => ?_⟩
    rw [Nat.zero_add, Nat.mod_eq_of_lt hm, List.getElem?_eq_getElem hm]
  · have hv := List.length_pos_iff.2 hv
    refine ⟨u.length, by rw [List.length_append]; omega, fun m hm => ?_⟩
    rw [← List.getElem?_eq_getElem hm, List.length_append]
    rw [List.length_append] at hm
    by_cases h : m < v.length
    · rw [Nat.mod_eq_of_lt (by omega), List.getElem?_append_right (by omega), List.getElem?_append_left h]; congr 1; omega
    · rw [show u.length + m = m - v.length + (u.length + v.length) by omega, Nat.add_mod_right, Nat.mod_eq_of_lt (by omega), List.getElem?_append_left (by omega), List.getElem?_append_right (by omega)]
end Go.Proofs.Ytjcgkhcbdbbdkaa
