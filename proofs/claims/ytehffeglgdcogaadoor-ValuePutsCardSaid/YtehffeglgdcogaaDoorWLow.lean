import Derived.Test.YtehffeglgdcogaaDoorWire3
namespace Go.Proofs.YtehffeglgdcogaaDoor
open Go.RowKit Go.Lib

/-- a number of bytes, the lowest first -/
def lowN : List UInt8 → Nat
  | [] => 0
  | b :: t => b.toNat + 256 * lowN t
theorem lowN_app : ∀ a b : List UInt8, lowN (a ++ b) = lowN a + 256 ^ a.length * lowN b
  | [], b => by simp [lowN]
  | x :: a, b => by
    simp only [List.cons_append, lowN, lowN_app a b, List.length_cons, Nat.pow_succ]
    rw [Nat.mul_add, ← Nat.mul_assoc, Nat.mul_comm 256 (256 ^ a.length)]; omega
theorem lowN_lt : ∀ a : List UInt8, lowN a < 256 ^ a.length
  | [] => by decide
  | x :: a => by
    have := lowN_lt a
    have hx := x.toNat_lt
    simp only [lowN, List.length_cons, Nat.pow_succ]
    omega
theorem lowN_succ {l : List UInt8} {k : Nat} (hk : k < l.length) : lowN (l.take (k + 1)) = lowN (l.take k) + 256 ^ k * l[k].toNat := by
  rw [List.take_succ_eq_append_getElem hk, lowN_app]
  simp [lowN, Nat.min_eq_left (Nat.le_of_lt hk)]
theorem lowN_tlt {l : List UInt8} {k : Nat} (hk : k ≤ l.length) : lowN (l.take k) < 256 ^ k := by
  have := lowN_lt (l.take k)
  rwa [List.length_take, Nat.min_eq_left hk] at this
theorem lowN_drop {l : List UInt8} {k : Nat} (hk : k < l.length) : lowN (l.drop k) = l[k].toNat + 256 * lowN (l.drop (k + 1)) := by
  rw [List.drop_eq_getElem_cons hk]; rfl
theorem lowN_64 {l : List UInt8} (h : l.length ≤ 8) : lowN l < 18446744073709551616 := by
  have h1 := lowN_lt l
  have h2 : 256 ^ l.length ≤ 256 ^ 8 := Nat.pow_le_pow_right (by decide) h
  have e : 256 ^ 8 = 18446744073709551616 := by decide
  omega
theorem vor8 (a x i : Nat) (m : Int) (hm : m = 2 ^ (8 * i)) (ha : a < 256 ^ i) (hi : i < 8) (hx : x < 256) :
    bits .or .u64 (a : Int) (IntKind.u64.wrap ((x : Int) * m)) = ((a + 256 ^ i * x : Nat) : Int) := by
  have h64 : x * 256 ^ i + 256 ^ i ≤ 18446744073709551616 := by
    have h : (x + 1) * 256 ^ i ≤ 256 * 256 ^ i := Nat.mul_le_mul_right _ (by omega)
    have h1 : 256 ^ (i + 1) ≤ 256 ^ 8 := Nat.pow_le_pow_right (by decide) (by omega)
    have e : 256 ^ 8 = 18446744073709551616 := by decide
    rw [Nat.pow_succ, Nat.mul_comm (256 ^ i) 256] at h1
    rw [Nat.add_mul] at h
    omega
  rw [IntKind.wrap_u64]
  have e2 : m = ((256 ^ i : Nat) : Int) := by rw [hm, pow256]
  rw [e2, ← Int.natCast_mul]
  have e3 : ((x * 256 ^ i : Nat) : Int) % 18446744073709551616 = ((x * 256 ^ i : Nat) : Int) := by omega
  have p256 : 256 ^ i = 2 ^ (8 * i) := by rw [Nat.pow_mul]
  rw [e3, bits_or_u64_nat _ _ (by omega) (by omega), Nat.or_comm]
  have h := Nat.two_pow_add_eq_or_of_lt (i := 8 * i) (b := a) (by rw [← p256]; exact ha) x
  rw [← p256, Nat.mul_comm (256 ^ i)] at h
  rw [← h, Nat.add_comm, Nat.mul_comm x]

set_option maxRecDepth 100000 in
set_option maxHeartbeats 1000000 in
theorem low_any (l : List UInt8) (v : Value) (S : Nat → Prop) (w : World) (hb : Rd w S 1 v l.length (U8 l)) (hl : l.length ≤ 8) {R : Ending → World → Prop} (hR : R (.returned (.int .u64 (lowN l))) w) :
    Calls Tryd.prog 52 #[v] w R := by
  have HR := Lib.hid hR
  clear hR
  obtain ⟨_, A, c, rfl, h1, h2, h3, h4⟩ := hb
  unfold maxLen at h2
  go_enter Tryd.func52, Tryd.ntmps52
  go_wp2
  go_loopw [8, 3] (fun i s wr => ∃ (k a : Nat), k ≤ l.length ∧ i = .int .i64 k ∧ s = .int .u64 a ∧ Hid (a = lowN (l.take k)) ∧ wr = w) (fun i _ _ => l.length - (intOf i).toNat)
  case atStart => exact ⟨0, 0, Nat.zero_le _, rfl, rfl, rfl, rfl⟩
  case round =>
    obtain ⟨k, a, hk, rfl, rfl, ha, rfl⟩ := hrel
    by_cases hlt : k < l.length
    · obtain ⟨b, o, rfl, _, hc⟩ := h4 (by omega)
      have c1 := hc k _ (U8_at l k hlt)
      have hx : (l[k]'hlt).toNat < 256 := (l[k]'hlt).toNat_lt
      have HS := Lib.hid (lowN_succ hlt)
      have HL := Lib.hid (lowN_tlt hk)
      generalize (l[k]'hlt).toNat = x at *
      have HV := Lib.hid (fun m hm => vor8 a x k m hm (by rw [ha.out]; exact HL.out) (by omega) hx)
      clear hc h4 h3
      go_wp2
      go_roundw
      case rel => exact ⟨k + 1, a + 256 ^ k * x, by omega, by go_num, by rw [HV.out _ rfl], by show _ = _; rw [HS.out, ha.out], by first | rfl | trivial⟩
      case measure => simp [intOf]; omega
    · obtain rfl : k = l.length := by omega
      have h := HR.out
      rw [show lowN l = a by rw [ha.out, List.take_length]] at h
      go_wp2
      exact h

set_option maxRecDepth 100000 in
set_option maxHeartbeats 1000000 in
theorem number_any (l : List UInt8) (v : Value) (S : Nat → Prop) (w : World) (hb : Rd w S 1 v l.length (U8 l)) (hl : l.length ≤ 8) {R : Ending → World → Prop} (hR : R (.returned (.int .u64 (lowN l))) w) :
    Calls Tryd.prog 44 #[v] w R := by
  have HR := Lib.hid hR
  clear hR
  obtain ⟨_, A, c, rfl, h1, h2, h3, h4⟩ := hb
  unfold maxLen at h2
  go_enter Tryd.func44, Tryd.ntmps44
  go_wp2
  go_loopw [4, 3] (fun i s wr => ∃ (k a : Nat) (z : Int), k ≤ l.length ∧ z = (k : Int) - 1 ∧ i = .int .i64 z ∧ s = .int .u64 a ∧ Hid (a = lowN (l.drop k)) ∧ wr = w) (fun i _ _ => (intOf i + 1).toNat)
  case atStart => exact ⟨l.length, 0, (l.length : Int) - 1, Nat.le_refl _, rfl, by go_num, rfl, by show _ = _; rw [List.drop_length]; rfl, rfl⟩
  case round =>
    obtain ⟨k, a, z, hk, hz, rfl, rfl, ha, rfl⟩ := hrel
    rcases Nat.eq_zero_or_pos k with h0 | h0
    · subst h0
      have h := HR.out
      rw [show lowN l = a by rw [ha.out, List.drop_zero]] at h
      have hz1 : z = -1 := by omega
      subst hz1
      clear hz
      go_wp2
      exact h
    · obtain ⟨j, rfl⟩ : ∃ j, k = j + 1 := ⟨k - 1, by omega⟩
      have hlt : j < l.length := by omega
      obtain ⟨b, o, rfl, _, hc⟩ := h4 (by omega)
      have c1 := hc j _ (U8_at l j hlt)
      have hx : (l[j]'hlt).toNat < 256 := (l[j]'hlt).toNat_lt
      have HS := Lib.hid (lowN_drop hlt)
      have hb64 : lowN (l.drop j) < 18446744073709551616 := lowN_64 (by rw [List.length_drop]; omega)
      rw [HS.out, ← ha.out] at hb64
      obtain rfl : z = (j : Int) := by omega
      generalize (l[j]'hlt).toNat = x at *
      clear hc h4 h3 hz
      go_wp2
      go_roundw
      case rel => exact ⟨j, x + 256 * a, (j : Int) - 1, by omega, rfl, by go_num, by go_num, by show _ = _; rw [HS.out, ha.out], by first | rfl | trivial⟩
      case measure => simp [intOf] <;> omega
end Go.Proofs.YtehffeglgdcogaaDoor
