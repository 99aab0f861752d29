import Derived.Test.YtehffeglgdcogaaChecked
import Derived.Test.YtehffeglgdcogaaBase
import Derived.Test.YtehffeglgdcogaaWire4
namespace Go.Proofs.Ytehffeglgdcogaa
open Go.RowKit

/-- what 'long' says, as far as the law needs it: false says that the fields are few and short -/
def Short (l : List Fld) : Prop := l.length ≤ 100 ∧ ∀ f ∈ l, f.data.length ≤ 2000

set_option maxRecDepth 100000 in
set_option maxHeartbeats 1000000 in
theorem long_any (fs : List Fld) (v : Value) (S : Nat → Prop) (w : World) (hf : Flds w S v fs) (hz : ∀ f ∈ fs, f.data.length ≤ 140737488355328) {R : Ending → World → Prop}
    (hR : ∀ b : Bool, (b = false → Short fs) → R (.returned (.bool b)) w) :
    Calls Try.prog 21 #[v] w R := by
  have HR := Lib.hid hR
  clear hR
  have hok := Lib.hid hf.2
  have hzz := Lib.hid hz
  clear hz
  have hf1 := hf.1.lt (by decide)
  clear hf
  obtain ⟨_, A, c, rfl, h1, h2, h3, h4⟩ := hf1
  unfold maxLen at h2
  go_enter Try.func21, Try.ntmps21
  go_wp2
  go_loop [4, 3] (fun i n => ∃ (k m : Nat), k ≤ fs.length ∧ k ≤ 100 ∧ i = .int .i64 k ∧ n = .int .i64 m ∧ m ≤ 2000 ∧ Hid (∀ (j : Nat) (hj : j < fs.length), j < k → fs[j].data.length ≤ 2000)) (fun i _ => fs.length - (intOf i).toNat)
  case atStart => exact ⟨0, 0, Nat.zero_le _, by omega, rfl, rfl, by omega, fun j _ h => absurd h (by omega)⟩
  case round =>
    obtain ⟨k, m, hk, hk100, rfl, rfl, hm, hall⟩ := hrel
    by_cases hlt : k < fs.length ∧ k < 100
    · obtain ⟨hlt, hlt2⟩ := hlt
      obtain ⟨b, o, rfl, hS, hc⟩ := h4 (by omega)
      have e1 := flat_cells Fld.cells_len (Grow.refl w) hS hc hlt
      have ok := hok.out _ (List.getElem_mem hlt)
      have hzd := hzz.out _ (List.getElem_mem hlt)
      have hall2 : Hid (fs[k].data.length ≤ 2000 → ∀ (j : Nat) (hj : j < fs.length), j < k + 1 → fs[j].data.length ≤ 2000) := by
        intro hd j hj hjk
        rcases Nat.lt_or_ge j k with h | h
        · exact hall.out j hj h
        · obtain rfl : j = k := by omega
          exact hd
      clear hc h4 h3 hok hall
      generalize hF : fs[k] = f at *
      clear hF
      obtain ⟨num, kind, int, data, dv⟩ := f
      obtain ⟨_, _, _, q1⟩ := ok
      dsimp only at hzd
      obtain ⟨_, A2, cc2, hdv, hq1, hq2, _, _⟩ := q1
      dsimp only at hdv hq1
      subst hdv
      unfold maxLen at hq2
      have c3 := e1 3 _ rfl
      clear e1
      go_wp2
      · exact HR.out true (by simp)
      · have hle : (m : Int) + data.length ≤ 2000 := by assumption
        go_round
        case rel => exact ⟨k + 1, m + data.length, by omega, by omega, by go_num, by go_num, by omega, hall2.out (by show data.length ≤ 2000; omega)⟩
        case measure => simp [intOf]; omega
    · by_cases hlt2 : k < fs.length
      · have h100 : k = 100 := by omega
        clear h4 h3
        have t1 : decide (100 < (fs.length : Int)) = true := by simp; omega
        go_wp2
        exact HR.out true (by simp)
      · have hkl : k = fs.length := by omega
        clear h4 h3
        have t1 : decide (100 < (fs.length : Int)) = false := by simp; omega
        go_wp2
        refine HR.out false (fun _ => ⟨by omega, fun f hf => ?_⟩)
        obtain ⟨j, hj, rfl⟩ := List.getElem_of_mem hf
        exact hall.out j hj (by omega)
end Go.Proofs.Ytehffeglgdcogaa
