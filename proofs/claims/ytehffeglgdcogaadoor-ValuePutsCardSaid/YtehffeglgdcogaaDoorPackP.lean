/-
  Numbers one behind the other, in plain Lean: no program is named here.
-/
import Derived.Test.YtehffeglgdcogaaDoorWireP
namespace Go.Proofs.YtehffeglgdcogaaDoor

theorem vgo_ok (b : List UInt8) (k : Nat) : ∀ (f i a : Nat) (v nx : Int), vgo b k f i a = (v, nx, 0) → 0 ≤ v ∧ (k : Int) + i + 1 ≤ nx ∧ nx ≤ b.length := by
  intro f
  induction f with
  | zero => intro i a v nx h; simp [vgo] at h
  | succ f ih =>
    intro i a v nx h
    rcases Nat.lt_or_ge (k + i) b.length with hlt | hge
    · by_cases h9 : i = 9 ∧ 1 < b[k + i].toNat
      · rw [vgo_form hlt rfl h9] at h; simp at h
      · by_cases hl : b[k + i].toNat < 128
        · rw [vgo_done hlt rfl h9 hl] at h
          simp only [Prod.mk.injEq] at h
          omega
        · rw [vgo_more hlt rfl h9 hl] at h
          have := ih _ _ _ _ h
          omega
    · rw [vgo_short hge] at h; simp at h

theorem varint_ok {b : List UInt8} {k v nx : Int} (h : varint b k = (v, nx, 0)) : 0 ≤ v ∧ 0 ≤ k ∧ k + 1 ≤ nx ∧ nx ≤ b.length := by
  unfold varint at h
  split at h
  · simp at h
  · have := vgo_ok b _ _ _ _ _ _ h
    omega

/-- an error's number -/
theorem vgo_err (b : List UInt8) (k : Nat) : ∀ (f i a : Nat), (vgo b k f i a).2.2 = 0 ∨ (vgo b k f i a) = (0, 0, 2) ∨ (vgo b k f i a) = (0, 0, 3) := by
  intro f
  induction f with
  | zero => intro i a; simp [vgo]
  | succ f ih =>
    intro i a
    rcases Nat.lt_or_ge (k + i) b.length with hlt | hge
    · by_cases h9 : i = 9 ∧ 1 < b[k + i].toNat
      · rw [vgo_form hlt rfl h9]; simp
      · by_cases hl : b[k + i].toNat < 128
        · rw [vgo_done hlt rfl h9 hl]; simp
        · rw [vgo_more hlt rfl h9 hl]; exact ih _ _
    · rw [vgo_short hge]; simp

def pack (l : List Int) : List UInt8 := l.flatMap fun v => vput 9 v.toNat

theorem pack_len : ∀ l : List Int, (pack l).length ≤ l.length * 10
  | [] => by simp [pack]
  | x :: l => by
    have h1 := vput_len 9 x.toNat
    have h2 := pack_len l
    have hp : pack (x :: l) = vput 9 x.toNat ++ pack l := rfl
    rw [hp, List.length_append, List.length_cons]
    omega

def unpGo (b : List UInt8) : Nat → Int → List Int → List Int × Int
  | 0, _, acc => (acc, 0)
  | f + 1, k, acc =>
    if (b.length : Int) ≤ k then (acc, 0)
    else if (varint b k).2.2 ≠ 0 then ([], (varint b k).2.2)
    else if 4294967295 < (varint b k).1 then ([], 3)
    else unpGo b f (varint b k).2.1 (acc ++ [(varint b k).1])
def unpack (b : List UInt8) : List Int × Int := unpGo b (b.length + 1) 0 []

theorem unpGo_end {b : List UInt8} {f : Nat} {k : Int} {acc : List Int} (h : (b.length : Int) ≤ k) : unpGo b f k acc = (acc, 0) := by
  cases f with
  | zero => rfl
  | succ f => simp [unpGo, h]
theorem unpGo_err {b : List UInt8} {f : Nat} {k v nx e : Int} {acc : List Int} (h : ¬ (b.length : Int) ≤ k) (hv : varint b k = (v, nx, e)) (he : e ≠ 0) : unpGo b (f + 1) k acc = ([], e) := by
  simp [unpGo, h, hv, he]
theorem unpGo_big {b : List UInt8} {f : Nat} {k v nx : Int} {acc : List Int} (h : ¬ (b.length : Int) ≤ k) (hv : varint b k = (v, nx, 0)) (he : 4294967295 < v) : unpGo b (f + 1) k acc = ([], 3) := by
  simp [unpGo, h, hv, he]
theorem unpGo_more {b : List UInt8} {f : Nat} {k v nx : Int} {acc : List Int} (h : ¬ (b.length : Int) ≤ k) (hv : varint b k = (v, nx, 0)) (he : ¬ 4294967295 < v) : unpGo b (f + 1) k acc = unpGo b f nx (acc ++ [v]) := by
  simp [unpGo, h, hv, he]

theorem unpGo_pack : ∀ (l : List Int) (d : List UInt8) (acc : List Int) (f : Nat), (∀ v ∈ l, 0 ≤ v ∧ v ≤ 4294967295) → (pack l).length < f → unpGo (d ++ pack l) f d.length acc = (acc ++ l, 0)
  | [], d, acc, f, _, _ => by rw [unpGo_end (by simp [pack])]; simp
  | v :: l, d, acc, f, hl, hf => by
    have hv := hl v (by simp)
    obtain ⟨h1, h2⟩ := vput_len 9 v.toNat
    have hp : pack (v :: l) = vput 9 v.toNat ++ pack l := rfl
    rw [hp, List.length_append] at hf
    obtain ⟨f, rfl⟩ := Nat.exists_eq_succ_of_ne_zero (show f ≠ 0 by omega)
    have hvar := varint_vput d (pack l) v.toNat (by omega)
    rw [hp, unpGo_more (by simp only [List.length_append]; omega) hvar (by omega)]
    have ih := unpGo_pack l (d ++ vput 9 v.toNat) (acc ++ [v]) f (fun x hx => hl x (by simp [hx])) (by omega)
    rw [List.append_assoc, List.length_append] at ih
    rw [show ((v.toNat : Nat) : Int) = v by omega, ih]
    simp

theorem unpack_pack (l : List Int) (hl : ∀ v ∈ l, 0 ≤ v ∧ v ≤ 4294967295) : unpack (pack l) = (l, 0) := by
  have := unpGo_pack l [] [] ((pack l).length + 1) hl (by omega)
  simpa [unpack] using this
end Go.Proofs.YtehffeglgdcogaaDoor
