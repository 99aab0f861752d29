/-
  Numbers as bytes, in plain Lean: no program is named here.
-/
namespace Go.Proofs.YtehffeglgdcogaaDoor

/-- A number read off the bytes from place k on: i bytes of it are read, and are v. -/
def vgo (b : List UInt8) (k : Nat) : Nat → Nat → Nat → Int × Int × Int
  | 0, _, _ => (0, 0, 3)
  | f + 1, i, v =>
    match b[k + i]? with
    | none => (0, 0, 2)
    | some c =>
      if i = 9 ∧ 1 < c.toNat then (0, 0, 3)
      else if c.toNat < 128 then (((v + c.toNat % 128 * 128 ^ i : Nat) : Int), ((k + i + 1 : Nat) : Int), 0)
      else vgo b k f (i + 1) (v + c.toNat % 128 * 128 ^ i)

def varint (b : List UInt8) (k : Int) : Int × Int × Int :=
  if k < 0 ∨ (b.length : Int) < k then (0, 0, 8) else vgo b k.toNat 10 0 0

/-- a number as bytes, seven bits each -/
def vput : Nat → Nat → List UInt8
  | 0, v => [UInt8.ofNat v]
  | f + 1, v => if v < 128 then [UInt8.ofNat v] else UInt8.ofNat (v % 128 + 128) :: vput f (v / 128)

theorem vput_one {f v : Nat} (h : v < 128) : vput f v = [UInt8.ofNat v] := by
  cases f with
  | zero => rfl
  | succ f => simp [vput, h]
theorem vput_more {f v : Nat} (h : ¬ v < 128) : vput (f + 1) v = UInt8.ofNat (v % 128 + 128) :: vput f (v / 128) := by simp [vput, h]
theorem vput_len (f : Nat) : ∀ v, 1 ≤ (vput f v).length ∧ (vput f v).length ≤ f + 1 := by
  induction f with
  | zero => intro v; simp [vput]
  | succ f ih => intro v; have := ih (v / 128); unfold vput; split <;> simp <;> omega
theorem vgo_short {b : List UInt8} {k f i v : Nat} (h : b.length ≤ k + i) : vgo b k (f + 1) i v = (0, 0, 2) := by
  simp [vgo, List.getElem?_eq_none h]
theorem vgo_form {b : List UInt8} {k f i v x : Nat} (h : k + i < b.length) (hx : b[k + i].toNat = x) (h9 : i = 9 ∧ 1 < x) : vgo b k (f + 1) i v = (0, 0, 3) := by
  simp only [vgo, List.getElem?_eq_getElem h, hx]
  rw [if_pos h9]
theorem vgo_done {b : List UInt8} {k f i v x : Nat} (h : k + i < b.length) (hx : b[k + i].toNat = x) (h9 : ¬ (i = 9 ∧ 1 < x)) (hl : x < 128) :
    vgo b k (f + 1) i v = (((v + x % 128 * 128 ^ i : Nat) : Int), ((k + i + 1 : Nat) : Int), 0) := by
  simp only [vgo, List.getElem?_eq_getElem h, hx]
  rw [if_neg h9, if_pos hl]
theorem vgo_more {b : List UInt8} {k f i v x : Nat} (h : k + i < b.length) (hx : b[k + i].toNat = x) (h9 : ¬ (i = 9 ∧ 1 < x)) (hl : ¬ x < 128) :
    vgo b k (f + 1) i v = vgo b k f (i + 1) (v + x % 128 * 128 ^ i) := by
  simp only [vgo, List.getElem?_eq_getElem h, hx]
  rw [if_neg h9, if_neg hl]

/-- What is put is got: from f + 1 - .. bytes on. -/
theorem vgo_vput (l t : List UInt8) (k : Nat) (hk : k = l.length) : ∀ (f i a v : Nat), i + f = 9 → v < 2 * 128 ^ f → ∀ m : List UInt8, m.length = i → 
    vgo (l ++ (m ++ (vput f v ++ t))) k (f + 1) i a = (((a + v * 128 ^ i : Nat) : Int), ((k + i + (vput f v).length : Nat) : Int), 0) := by
  intro f
  induction f with
  | zero =>
    intro i a v hi hv m hm
    have hv2 : v < 2 := by simpa using hv
    have hget : k + i < (l ++ (m ++ (vput 0 v ++ t))).length := by simp [vput]; omega
    have hx : (l ++ (m ++ (vput 0 v ++ t)))[k + i].toNat = v := by
      simp only [hk, ← hm]
      rw [List.getElem_append_right (by omega)]
      simp [vput]
      omega
    rw [vgo_done hget hx (by omega) (by omega)]
    simp [vput, Nat.mod_eq_of_lt (show v < 128 by omega)]
  | succ f ih =>
    intro i a v hi hv m hm
    by_cases hlt : v < 128
    · have hget : k + i < (l ++ (m ++ (vput (f + 1) v ++ t))).length := by rw [vput_one hlt]; simp; omega
      have hx : (l ++ (m ++ (vput (f + 1) v ++ t)))[k + i].toNat = v := by
        simp only [vput_one hlt, hk, ← hm]
        rw [List.getElem_append_right (by omega)]
        simp
        omega
      rw [vgo_done hget hx (by omega) hlt, vput_one hlt, Nat.mod_eq_of_lt hlt]
      simp
    · have hget : k + i < (l ++ (m ++ (vput (f + 1) v ++ t))).length := by rw [vput_more hlt]; simp; omega
      have hx : (l ++ (m ++ (vput (f + 1) v ++ t)))[k + i].toNat = v % 128 + 128 := by
        simp only [vput_more hlt, hk, ← hm]
        rw [List.getElem_append_right (by omega)]
        simp
        omega
      rw [vgo_more hget hx (by omega) (by omega)]
      have h := ih (i + 1) (a + (v % 128 + 128) % 128 * 128 ^ i) (v / 128) (by omega) (by rw [Nat.pow_succ] at hv; omega) (m ++ [UInt8.ofNat (v % 128 + 128)]) (by simp [hm])
      have e : l ++ (m ++ (vput (f + 1) v ++ t)) = l ++ (m ++ [UInt8.ofNat (v % 128 + 128)] ++ (vput f (v / 128) ++ t)) := by rw [vput_more hlt]; simp
      rw [e, h, vput_more hlt]
      refine Prod.ext ?_ (Prod.ext ?_ rfl)
      · have h1 : (v % 128 + 128) % 128 = v % 128 := by omega
        have h2 : v / 128 * 128 ^ (i + 1) = v / 128 * 128 * 128 ^ i := by rw [Nat.pow_succ, Nat.mul_comm (128 ^ i), Nat.mul_assoc]
        have h3 : v % 128 * 128 ^ i + v / 128 * 128 * 128 ^ i = v * 128 ^ i := by
          rw [← Nat.add_mul]
          congr 1
          omega
        show ((_ : Nat) : Int) = ((_ : Nat) : Int)
        rw [h1, h2, Nat.add_assoc, h3]
      · show ((_ : Nat) : Int) = ((_ : Nat) : Int)
        simp
        omega

theorem varint_vput (l t : List UInt8) (v : Nat) (hv : v < 18446744073709551616) :
    varint (l ++ (vput 9 v ++ t)) l.length = ((v : Int), ((l.length + (vput 9 v).length : Nat) : Int), 0) := by
  have e : 2 * 128 ^ 9 = 18446744073709551616 := by decide
  have h := vgo_vput l t l.length rfl 9 0 0 v rfl (by omega) [] rfl
  unfold varint
  rw [if_neg (by simp only [List.length_append]; omega)]
  simpa using h

end Go.Proofs.YtehffeglgdcogaaDoor
