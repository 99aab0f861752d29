/-
  slices.Compact and clear at elements of more cells than one: what is of no program.
-/
import Derived.Test.YtfdjdfobhkmlpaaCore
import Derived.Lib.SlicesCompact
namespace Go.Proofs.Ytfdjdfobhkmlpaa
open Go.RowKit
section
variable {P : Program}

theorem run_clear_cells (w : World) (t e ty : TypeId) (z : Value) (ht : P.underlying t = some (.slice e)) (hv : ∀ w, (zeroValue e).run P w = .ok z w) (b o n c : Nat) (zs : List Value) (hn : 0 < n)
    (hzc : (Builtin.zeroCells z.cells n).toList = zs) (hc : ∀ j, j < zs.length → (w.cell? ⟨b, o + j, none⟩).isSome = true) (hf : ∀ j, j < zs.length → w.frozen? ⟨b, o + j, none⟩ = false) (h1 : ∀ u ∈ zs, u.oneCell' = true) :
    (Builtin.clear_ #[t] ty #[.slice (some ⟨b, o, none⟩) n c]).run P w = .ok (.tuple #[]) (w.setCells b o zs) := by
  have hst := run_storeCells_cells (P := P) b o zs 0 w (by simpa using hc) (by simpa using hf) h1
  simp only [Nat.add_zero] at hst
  obtain ⟨m, rfl⟩ : ∃ m, n = m + 1 := ⟨n - 1, by omega⟩
  simp [Builtin.clear_, run_underlying ht, hv, hzc, hst]

theorem run_zero {t : TypeId} {i : TypeInfo} {z : Value} (h : P.info? t = some i) (hz : i.zero = some z) (w : World) : (zeroValue t).run P w = .ok z w := by
  simp [zeroValue, typeInfo, h, hz]

theorem own_cut {w : World} {base e size n k c : Nat} {A : Option Addr} {xs : List Value} (h : w.ownsRow base e size (.slice A n c) n xs) (hk : k ≤ n) (h0 : 0 < n) : w.ownsRow base e size (.slice A k c) k (xs.take (k * size)) := by
  obtain ⟨h1, h2⟩ := h
  have hle : k * size ≤ n * size := Nat.mul_le_mul_right _ hk
  refine ⟨by rw [List.length_take]; omega, ?_⟩
  rcases h2 with ⟨hn, h0'⟩ | ⟨g, cap, cur, hv, hg, hh, hnc, hcap, hsz, htake⟩
  · omega
  · injection hv with a b c
    subst a c
    refine .inr ⟨g, _, cur, rfl, hg, hh, by omega, hcap, hsz, ?_⟩
    rw [← htake, List.take_take, Nat.min_eq_left hle]

theorem own_setCells {base e size n m g cap : Nat} : ∀ (zs : List Value) (k : Nat) (w : World) (xs : List Value), m ≤ k → w.ownsRow base e size (.slice (some ⟨g, 0, none⟩) n cap) n xs →
    ∃ ys, (w.setCells g k zs).ownsRow base e size (.slice (some ⟨g, 0, none⟩) n cap) n ys ∧ ys.take m = xs.take m ∧ w.grownBy (w.setCells g k zs) (some g)
  | [], k, w, xs, _, h => ⟨xs, h, rfl, World.grownBy.refl w _⟩
  | z :: zs, k, w, xs, hm, h => by
    obtain ⟨h1, h2⟩ := h.stored k z
    obtain ⟨ys, h3, h4, h5⟩ := own_setCells zs (k + 1) _ _ (Nat.le_succ_of_le hm) h1
    refine ⟨ys, h3, ?_, h2.trans h5⟩
    rw [h4, List.take_set_of_le (by omega)]
end
end Go.Proofs.Ytfdjdfobhkmlpaa
