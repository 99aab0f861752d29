/-
  Values of attributes, in plain Lean: what is put is got again.
-/
import Derived.Test.YtjalimkajcjapaaDoorChecked
import Derived.Test.YtjalimkajcjapaaDoorVGet
namespace Go.Proofs.YtjalimkajcjapaaDoor
open Go.RowKit B

theorem right_k {x : Val} (h : rightV x = true) : 1 ≤ x.k ∧ x.k ≤ 7 := by
  unfold rightV at h
  split at h
  · omega
  · split at h
    · omega
    · split at h
      · omega
      · exact of_decide_eq_true h
theorem right_2 {x : Val} (h : rightV x = true) (hk : x.k = 2) : x.b < 4294967296 := by
  unfold rightV at h
  rw [if_neg (by omega), if_pos hk] at h
  exact of_decide_eq_true h
theorem good_fld {x : Val} (hb : U64 x.b) (hs : x.t.size ≤ 2000) (h : rightV x = true) (dv : Value) : (fldV x dv).fd.good := by
  have hk := right_k h
  have h2 := right_2 h
  obtain ⟨k, t, b⟩ := x
  dsimp only at hk h2 hb hs
  unfold U64 at hb
  refine ⟨⟨hk.1, by show k ≤ 536870911; omega⟩, ?_⟩
  show kindV k = 0 ∧ (intV ⟨k, t, b⟩).toNat < 18446744073709551616 ∧ (if k = 1 then tx t else []) = [] ∨ kindV k = 1 ∧ (intV ⟨k, t, b⟩).toNat < 256 ^ 8 ∧ (if k = 1 then tx t else []) = [] ∨ kindV k = 5 ∧ (intV ⟨k, t, b⟩).toNat < 256 ^ 4 ∧ (if k = 1 then tx t else []) = [] ∨ kindV k = 2 ∧ (intV ⟨k, t, b⟩).toNat = 0 ∧ (if k = 1 then tx t else []).length < 18446744073709551616
  have p4 : (256 : Nat) ^ 4 = 4294967296 := by decide
  have p8 : (256 : Nat) ^ 8 = 18446744073709551616 := by decide
  unfold intV kindV
  dsimp only
  by_cases h1 : k = 1
  · simp only [if_pos h1]
    right; right; right
    exact ⟨trivial, rfl, by rw [tx_len]; omega⟩
  · simp only [if_neg h1]
    by_cases h2' : k = 2
    · have := h2 h2'
      simp only [if_pos h2', if_neg (show ¬ k = 6 by omega)]
      right; right; left
      exact ⟨trivial, by omega, trivial⟩
    · simp only [if_neg h2']
      by_cases h3 : k = 3
      · simp only [if_pos h3, if_neg (show ¬ k = 6 by omega)]
        right; left
        exact ⟨trivial, by omega, trivial⟩
      · simp only [if_neg h3]
        left
        refine ⟨trivial, ?_, trivial⟩
        by_cases h6 : k = 6
        · rw [if_pos h6]
          have := zig_lt64 (IntKind.i64.wrap b) (IntKind.wrap_i64 b ▸ ⟨by omega, by omega⟩)
          have := zig_nn (IntKind.i64.wrap b)
          omega
        · rw [if_neg h6]; omega
theorem val_fld {x : Val} (hb : U64 x.b) (dv : Value) : valF (fldV x dv).fd = ⟨x.k, if x.k = 1 then x.t else ⟨#[]⟩, if x.k = 1 then 0 else x.b⟩ := by
  obtain ⟨k, t, b⟩ := x
  dsimp only at hb ⊢
  unfold U64 at hb
  show (⟨k, ⟨(if k = 1 then tx t else []).toArray⟩, bitsV k (intV ⟨k, t, b⟩).toNat⟩ : Val) = _
  unfold intV bitsV
  dsimp only
  by_cases h1 : k = 1
  · simp only [if_pos h1, if_neg (show ¬ k = 6 by omega)]
    unfold tx
    simp
  · simp only [if_neg h1]
    by_cases h6 : k = 6
    · simp only [if_pos h6]
      have h0 := zig_nn (IntKind.i64.wrap b)
      rw [show (((zig (IntKind.i64.wrap b)).toNat : Nat) : Int) = zig (IntKind.i64.wrap b) by omega, zag_zig]
      have e : IntKind.u64.wrap (IntKind.i64.wrap b) = b := by
        rw [IntKind.wrap_i64, IntKind.wrap_u64]
        omega
      rw [e]
    · simp only [if_neg h6]
      rw [show ((b.toNat : Nat) : Int) = b by omega]
theorem right_val {x : Val} : rightV ⟨x.k, if x.k = 1 then x.t else ⟨#[]⟩, if x.k = 1 then 0 else x.b⟩ = rightV x := by
  unfold rightV
  dsimp only
  by_cases h1 : x.k = 1 <;> simp only [h1, if_true, if_false]
theorem plain_val {x : Val} : plainV ⟨x.k, if x.k = 1 then x.t else ⟨#[]⟩, if x.k = 1 then 0 else x.b⟩ = plainV x := by
  unfold plainV
  dsimp only
  by_cases h1 : x.k = 1 <;> simp only [h1, if_true, if_false]
theorem getS_put {x : Val} (hb : U64 x.b) (hs : x.t.size ≤ 2000) (h : rightV x = true) : getS (putV x) = (plainV x, 0) := by
  have hg := good_fld hb hs h (.slice none 0 0)
  have hp : putV x = fdput (fldV x (.slice none 0 0)).fd := by unfold putV; rw [if_pos h]; rfl
  have hv := val_fld hb (.slice none 0 0)
  have hl : low7 (fldV x (.slice none 0 0)).fd = true := by
    have := right_k h
    show decide (x.k ≤ 7) = true
    simpa using this.2
  have ho : ofS (fldV x (.slice none 0 0)).fd = (plainV x, 0) := by
    unfold ofS
    rw [hv, right_val, plain_val, if_pos ⟨rfl, h⟩]
  unfold getS
  rw [hp, get_one hg]
  dsimp only
  rw [if_neg (by simp), List.filter_cons, if_pos hl]
  exact ho
theorem getS_not {x : Val} (h : rightV x = false) : getS (putV x) = (zeroV, 3) := by
  unfold putV
  rw [h]
  rfl
theorem put_not {x : Val} (h : rightV x = false) : putV x = [] := by
  unfold putV
  rw [h]
  rfl
end Go.Proofs.YtjalimkajcjapaaDoor
