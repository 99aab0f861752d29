/-
  The order of values, in plain Lean.
-/
import Derived.Test.YtehffeglgdcogaaDoorROrd
namespace Go.Proofs.YtehffeglgdcogaaDoor
open Go.RowKit

theorem plain_k (x : Val) : (plainV x).k = x.k := by unfold plainV; split <;> simp_all
theorem cmpI_neg (a b : Int) : cmpI' b a = - cmpI' a b := by unfold cmpI'; split <;> split <;> (try split) <;> omega
theorem cmpI_self (a : Int) : cmpI' a a = 0 := by unfold cmpI'; rw [if_neg (by omega), if_neg (by omega)]
theorem orL_neg (a b c : Int) : orL [-a, -b, -c] = - orL [a, b, c] := by
  simp only [orL]
  by_cases h1 : a = 0
  · by_cases h2 : b = 0
    · by_cases h3 : c = 0 <;> simp [h1, h2, h3]
    · simp [h1, h2]
  · simp [h1]
theorem order_neg (x y : Val) : orderV y x = - orderV x y := by
  unfold orderV
  rw [cmpI_neg (plainV x).k, cmpB_neg (plainV x).t.data.toList, cmpI_neg (plainV x).b, orL_neg]
theorem ord_le (a a' A b b' : Int) : orL [cmpI' a a', A, cmpI' b b'] ≤ 0 ↔ (a < a' ∨ (a = a' ∧ (A < 0 ∨ (A = 0 ∧ b ≤ b')))) := by
  simp only [orL]
  unfold cmpI'
  by_cases h1 : a < a'
  · simp [h1]
  · by_cases h2 : a' < a
    · have : ¬ a = a' := by omega
      simp [h1, h2, this]
    · have : a = a' := by omega
      subst this
      simp only [if_neg h1, ne_eq, not_true_eq_false, if_false]
      by_cases hA : A = 0
      · subst hA
        simp only [ne_eq, not_true_eq_false, if_false]
        by_cases h3 : b < b'
        · simp [h3] <;> omega
        · by_cases h4 : b' < b
          · simp [h3, h4] <;> omega
          · simp [h3, h4] <;> omega
      · simp [hA]
        omega
theorem cmpB_lt {a b c : List UInt8} (h1 : Lib.compareBytes a b < 0) (h2 : Lib.compareBytes b c ≤ 0) : Lib.compareBytes a c < 0 := by
  have h := cmpB_trans a b c (by omega) h2
  rcases cmpB_vals a c with e | e | e
  · omega
  · have := cmpB_zero a c e
    subst this
    have := cmpB_neg a b
    omega
  · omega
theorem cmpB_lt' {a b c : List UInt8} (h1 : Lib.compareBytes a b ≤ 0) (h2 : Lib.compareBytes b c < 0) : Lib.compareBytes a c < 0 := by
  have h := cmpB_trans a b c h1 (by omega)
  rcases cmpB_vals a c with e | e | e
  · omega
  · have := cmpB_zero a c e
    subst this
    have := cmpB_neg a b
    omega
  · omega
theorem order_trans (u v w : Val) (h1 : orderV u v ≤ 0) (h2 : orderV v w ≤ 0) : orderV u w ≤ 0 := by
  unfold orderV at *
  rw [ord_le] at *
  have t1 := cmpB_trans (plainV u).t.data.toList (plainV v).t.data.toList (plainV w).t.data.toList
  have t2 := @cmpB_lt (plainV u).t.data.toList (plainV v).t.data.toList (plainV w).t.data.toList
  have t3 := @cmpB_lt' (plainV u).t.data.toList (plainV v).t.data.toList (plainV w).t.data.toList
  omega
theorem order_goes (u v w : Val) : orderV u v > 0 ∨ orderV v w > 0 ∨ orderV u w ≤ 0 := by
  by_cases h1 : orderV u v > 0
  · exact .inl h1
  · by_cases h2 : orderV v w > 0
    · exact .inr (.inl h2)
    · exact .inr (.inr (order_trans u v w (by omega) (by omega)))
theorem order_same (x y : Val) : rorderV x y = orderV x y := by
  unfold rorderV orderV
  by_cases hp : plainV x = plainV y
  · rw [if_pos hp, hp, cmpI_self, cmpB_self, cmpI_self]; rfl
  · rw [if_neg hp, plain_k, plain_k]
    by_cases h1 : x.k < y.k
    · rw [if_pos (.inl h1)]
      simp [orL, cmpI', h1]
    · by_cases h2 : y.k < x.k
      · rw [if_neg (by omega)]
        simp [orL, cmpI', h1, h2]
      · have e : x.k = y.k := by omega
        by_cases hk : x.k = 1
        · have hx : plainV x = ⟨1, x.t, 0⟩ := by unfold plainV; rw [if_pos hk]
          have hy : plainV y = ⟨1, y.t, 0⟩ := by unfold plainV; rw [if_pos (by omega)]
          have hne : Lib.compareBytes x.t.data.toList y.t.data.toList ≠ 0 := fun h => hp (by rw [hx, hy, Go.WideShapes.bytes_inj (cmpB_zero _ _ h)])
          rw [hx, hy, e, cmpI_self, cmpI_self]
          rcases cmpB_vals x.t.data.toList y.t.data.toList with h | h | h
          · rw [if_pos (.inr ⟨rfl, .inl ⟨by omega, h⟩⟩)]
            simp [orL, h]
          · exact absurd h hne
          · rw [if_neg (by omega)]
            simp [orL, h]
        · have hx : plainV x = ⟨x.k, ⟨#[]⟩, x.b⟩ := by unfold plainV; rw [if_neg hk]
          have hy : plainV y = ⟨y.k, ⟨#[]⟩, y.b⟩ := by unfold plainV; rw [if_neg (by omega)]
          have hb : x.b ≠ y.b := fun h => hp (by rw [hx, hy, e, h])
          rw [hx, hy, e, cmpI_self]
          simp only [orL, Lib.compareBytes, ne_eq, not_true_eq_false, if_false]
          by_cases h3 : x.b < y.b
          · rw [if_pos (.inr ⟨trivial, .inr ⟨by omega, h3⟩⟩)]
            simp [cmpI', h3]
          · rw [if_neg (by omega)]
            have h4 : y.b < x.b := by omega
            simp [cmpI', h3, h4]
end Go.Proofs.YtehffeglgdcogaaDoor
