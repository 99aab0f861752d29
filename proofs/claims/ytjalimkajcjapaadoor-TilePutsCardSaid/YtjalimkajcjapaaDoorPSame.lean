import Derived.Test.YtjalimkajcjapaaDoorChecked
import Derived.Test.YtjalimkajcjapaaDoorRowsA
namespace Go.Proofs.YtjalimkajcjapaaDoor
open Go.RowKit

set_option maxRecDepth 100000 in
set_option maxHeartbeats 2000000 in
theorem much_any (a : Value) (A : List PRow) (S S' : Nat → Prop) (w : World) (ha : Rd w S 1 a A.length (A.map PRow.v)) (hA : ∀ r ∈ A, r.rd w S') {R : Ending → World → Prop}
    (hR : ∀ b w', Grow w w' → R (.returned (.bool b)) w') :
    Calls Tryd.prog 13 #[a] w R := by
  have HR := Lib.hid hR
  clear hR
  have HA0 := Lib.hid ha
  obtain ⟨_, A0, c, rfl, h1, h2, h3, h4⟩ := ha
  have HA := Lib.hid hA
  unfold maxLen at h2
  clear hA
  go_enter Tryd.func13, Tryd.ntmps13
  go_wp2
  go_loopw [4, 3] (fun i s wr => ∃ (k : Nat) (n : Int), k ≤ A.length ∧ i = .int .i64 k ∧ s = .int .i64 n ∧ Hid (Grow w wr)) (fun i _ _ => A.length - (intOf i).toNat)
  case atStart => exact ⟨0, 0, Nat.zero_le _, rfl, rfl, Grow.refl _⟩
  case round =>
    obtain ⟨k, n, hk, rfl, rfl, hg⟩ := hrel
    by_cases hlt : k < A.length
    · by_cases h40 : k < 40
      · obtain ⟨b1, o1, rfl, -, -⟩ := h4 (by omega)
        have c1 : wr.cell? ⟨b1, o1 + k, none⟩ = some (A[k]'hlt).v := by
          have := rd_cell hg.out HA0.out rfl (i := k) (by simpa using hlt)
          rw [List.getElem_map] at this
          exact this
        have r1 := HA.out (A[k]'hlt) (List.getElem_mem hlt)
        clear h3 h4
        generalize A[k]'hlt = ra at *
        obtain ⟨v1, l1⟩ := ra
        unfold PRow.rd at r1
        dsimp only at *
        obtain ⟨_, X, cx, rfl, x1, x2, -, -⟩ := r1
        unfold maxLen at x2
        go_wp2
        · exact HR.out _ _ hg.out
        · go_roundw
          case rel => exact ⟨k + 1, _, by omega, by go_num, rfl, hg.out⟩
          case measure => simp [intOf]; omega
      · have t40 : decide ((k : Int) < 40) = false := by simp; omega
        go_wp2
        exact HR.out _ _ hg.out
    · obtain rfl : k = A.length := by omega
      go_wp2
      exact HR.out _ _ hg.out
end Go.Proofs.YtjalimkajcjapaaDoor
