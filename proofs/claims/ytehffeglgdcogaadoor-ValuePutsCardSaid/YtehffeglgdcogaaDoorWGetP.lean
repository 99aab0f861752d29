/-
  Fields of bytes, in plain Lean: no program is named here.
-/
import Derived.Test.YtehffeglgdcogaaDoorWLow
import Derived.Test.YtehffeglgdcogaaDoorPackP
import Derived.Test.YtehffeglgdcogaaDoorWire4
namespace Go.Proofs.YtehffeglgdcogaaDoor

theorem vgo_bd (b : List UInt8) (k : Nat) : ∀ (f i a : Nat) (v nx : Int), i + f = 10 → a < 128 ^ i → vgo b k f i a = (v, nx, 0) → v < 18446744073709551616 ∧ ∃ n : Nat, nx = (k : Int) + i + n ∧ v < 128 ^ (i + n) ∧ 1 ≤ n := by
  intro f
  induction f with
  | zero => intro i a v nx _ _ h; simp [vgo] at h
  | succ f ih =>
    intro i a v nx hif ha h
    rcases Nat.lt_or_ge (k + i) b.length with hlt | hge
    · have hx : b[k + i].toNat < 256 := b[k + i].toNat_lt
      by_cases h9 : i = 9 ∧ 1 < b[k + i].toNat
      · rw [vgo_form hlt rfl h9] at h; simp at h
      · obtain ⟨_, v1, v2⟩ := vor a b[k + i].toNat i _ rfl ha (by omega) hx h9
        by_cases hl : b[k + i].toNat < 128
        · rw [vgo_done hlt rfl h9 hl] at h
          simp only [Prod.mk.injEq] at h
          obtain ⟨rfl, rfl, -⟩ := h
          exact ⟨by omega, 1, by omega, by exact_mod_cast v1, Nat.le_refl _⟩
        · rw [vgo_more hlt rfl h9 hl] at h
          obtain ⟨h1, n, h2, h3, h4⟩ := ih (i + 1) _ v nx (by omega) v1 h
          refine ⟨h1, n + 1, by omega, ?_, by omega⟩
          rw [show i + (n + 1) = i + 1 + n by omega]; exact h3
    · rw [vgo_short hge] at h; simp at h

theorem varint_bd {b : List UInt8} {k v nx : Int} (h : varint b k = (v, nx, 0)) : v < 18446744073709551616 ∧ ∃ n : Nat, nx = k + n ∧ v < 128 ^ n ∧ 1 ≤ n := by
  unfold varint at h
  split at h
  · simp at h
  · obtain ⟨h1, n, h2, h3, h4⟩ := vgo_bd b k.toNat 10 0 0 v nx rfl (by decide) h
    exact ⟨h1, n, by omega, by simpa using h3, h4⟩
theorem varint_err (b : List UInt8) (k : Int) (h : (varint b k).2.2 ≠ 0) : (varint b k).1 = 0 ∧ (varint b k).2.1 = 0 := by
  unfold varint at h ⊢
  split
  · exact ⟨rfl, rfl⟩
  · rename_i h1
    rw [if_neg h1] at h
    rcases vgo_err b k.toNat 10 0 0 with e | e | e
    · exact absurd e h
    · rw [e]; exact ⟨rfl, rfl⟩
    · rw [e]; exact ⟨rfl, rfl⟩
theorem vput_min (f : Nat) : ∀ (v n : Nat), 1 ≤ n → v < 128 ^ n → (vput f v).length ≤ n := by
  induction f with
  | zero => intro v n hn _; simpa [vput] using hn
  | succ f ih =>
    intro v n hn hv
    by_cases h : v < 128
    · rw [vput_one h]; simpa using hn
    · rw [vput_more h, List.length_cons]
      obtain ⟨m, rfl⟩ : ∃ m, n = m + 1 := ⟨n - 1, by omega⟩
      have hm : 1 ≤ m := by
        rcases Nat.eq_zero_or_pos m with rfl | h0
        · simp at hv; omega
        · exact h0
      have : v / 128 < 128 ^ m := by
        rw [Nat.pow_succ] at hv
        exact Nat.div_lt_of_lt_mul (by rw [Nat.mul_comm]; exact hv)
      have := ih (v / 128) m hm this
      omega

structure FD where
  num : Int
  kind : Int
  int : Nat
  data : List UInt8
/-- what is behind a field's head: the number, the bytes, the place behind, the error -/
def bodyS (b : List UInt8) (k kind : Nat) : Nat × List UInt8 × Int × Int :=
  if kind = 0 then ((varint b k).1.toNat, [], (varint b k).2.1, (varint b k).2.2)
  else if kind = 2 then
    (if (varint b k).2.2 ≠ 0 then (0, [], 0, (varint b k).2.2)
     else if (b.length : Int) - (varint b k).2.1 < (varint b k).1 then (0, [], 0, 2)
     else (0, (b.drop (varint b k).2.1.toNat).take (varint b k).1.toNat, (varint b k).2.1 + (varint b k).1, 0))
  else if kind = 1 then (if b.length - k < 8 then (0, [], 0, 2) else (lowN ((b.drop k).take 8), [], ((k + 8 : Nat) : Int), 0))
  else if kind = 5 then (if b.length - k < 4 then (0, [], 0, 2) else (lowN ((b.drop k).take 4), [], ((k + 4 : Nat) : Int), 0))
  else (0, [], 0, 3)
def getGo (b : List UInt8) : Nat → Nat → List FD → List FD × Int
  | 0, _, acc => (acc, 0)
  | f + 1, k, acc =>
    if b.length ≤ k then (acc, 0)
    else if (varint b k).2.2 ≠ 0 then ([], (varint b k).2.2)
    else if (varint b k).1 / 8 < 1 ∨ 536870911 < (varint b k).1 / 8 then ([], 3)
    else
      let r := bodyS b (varint b k).2.1.toNat ((varint b k).1 % 8).toNat
      if r.2.2.2 ≠ 0 then ([], r.2.2.2)
      else getGo b f r.2.2.1.toNat (acc ++ [⟨(varint b k).1 / 8, (varint b k).1 % 8, r.1, r.2.1⟩])
def get (b : List UInt8) : List FD × Int := getGo b (b.length + 1) 0 []

theorem getGo_end {b : List UInt8} {f k : Nat} {acc : List FD} (h : b.length ≤ k) : getGo b f k acc = (acc, 0) := by
  cases f with
  | zero => rfl
  | succ f => rw [getGo, if_pos h]
theorem getGo_err {b : List UInt8} {f k : Nat} {acc : List FD} (h : ¬ b.length ≤ k) (he : (varint b k).2.2 ≠ 0) : getGo b (f + 1) k acc = ([], (varint b k).2.2) := by
  rw [getGo, if_neg h, if_pos he]
theorem getGo_num {b : List UInt8} {f k : Nat} {acc : List FD} (h : ¬ b.length ≤ k) (he : (varint b k).2.2 = 0) (hn : (varint b k).1 / 8 < 1 ∨ 536870911 < (varint b k).1 / 8) : getGo b (f + 1) k acc = ([], 3) := by
  rw [getGo, if_neg h, if_neg (by simp [he]), if_pos hn]
theorem getGo_body {b : List UInt8} {f k : Nat} {acc : List FD} (h : ¬ b.length ≤ k) (he : (varint b k).2.2 = 0) (hn : ¬ ((varint b k).1 / 8 < 1 ∨ 536870911 < (varint b k).1 / 8)) (hb : (bodyS b (varint b k).2.1.toNat ((varint b k).1 % 8).toNat).2.2.2 ≠ 0) :
    getGo b (f + 1) k acc = ([], (bodyS b (varint b k).2.1.toNat ((varint b k).1 % 8).toNat).2.2.2) := by
  rw [getGo, if_neg h, if_neg (by simp [he]), if_neg hn]
  exact if_pos hb
theorem getGo_more {b : List UInt8} {f k : Nat} {acc : List FD} (h : ¬ b.length ≤ k) (he : (varint b k).2.2 = 0) (hn : ¬ ((varint b k).1 / 8 < 1 ∨ 536870911 < (varint b k).1 / 8)) (hb : (bodyS b (varint b k).2.1.toNat ((varint b k).1 % 8).toNat).2.2.2 = 0) :
    getGo b (f + 1) k acc = getGo b f (bodyS b (varint b k).2.1.toNat ((varint b k).1 % 8).toNat).2.2.1.toNat (acc ++ [⟨(varint b k).1 / 8, (varint b k).1 % 8, (bodyS b (varint b k).2.1.toNat ((varint b k).1 % 8).toNat).1, (bodyS b (varint b k).2.1.toNat ((varint b k).1 % 8).toNat).2.1⟩]) := by
  rw [getGo, if_neg h, if_neg (by simp [he]), if_neg hn]
  exact if_neg (by simp [hb])
theorem bodyS_ok {b : List UInt8} {k kind n : Nat} {d : List UInt8} {nx : Int} (hk : k ≤ b.length) (h : bodyS b k kind = (n, d, nx, 0)) : n < 18446744073709551616 ∧ (k : Int) ≤ nx ∧ nx ≤ b.length ∧ d.length ≤ b.length := by
  unfold bodyS at h
  split at h
  · simp only [Prod.mk.injEq] at h
    obtain ⟨rfl, rfl, rfl, he⟩ := h
    have hv : varint b k = ((varint b k).1, (varint b k).2.1, 0) := by rw [← he]
    have h1 := varint_ok hv
    have h2 := varint_bd hv
    exact ⟨by omega, by omega, by omega, by simp⟩
  · split at h
    · split at h
      · simp only [Prod.mk.injEq] at h; rename_i h0 _ h1; exact absurd h.2.2.2 h1
      · rename_i he
        have he : (varint b k).2.2 = 0 := by simpa using he
        have hv : varint b k = ((varint b k).1, (varint b k).2.1, 0) := by rw [← he]
        have h1 := varint_ok hv
        split at h
        · simp at h
        · simp only [Prod.mk.injEq] at h
          obtain ⟨rfl, rfl, rfl, -⟩ := h
          exact ⟨by decide, by omega, by omega, by simp; omega⟩
    · split at h
      · split at h
        · simp at h
        · simp only [Prod.mk.injEq] at h
          obtain ⟨rfl, rfl, rfl, -⟩ := h
          exact ⟨lowN_64 (by simp; omega), by omega, by omega, by simp⟩
      · split at h
        · split at h
          · simp at h
          · simp only [Prod.mk.injEq] at h
            obtain ⟨rfl, rfl, rfl, -⟩ := h
            exact ⟨lowN_64 (by simp; omega), by omega, by omega, by simp⟩
        · simp at h
end Go.Proofs.YtehffeglgdcogaaDoor
