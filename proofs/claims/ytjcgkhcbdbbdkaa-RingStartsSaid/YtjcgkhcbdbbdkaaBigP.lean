/-
  Whole numbers of any size as words of base 65536, in plain Lean: no program is named here.
-/
namespace Go.Proofs.Ytjcgkhcbdbbdkaa

/-- a number's words, the lowest first, no nought above -/
def wds (n : Nat) : List Nat := if h : n = 0 then [] else n % 65536 :: wds (n / 65536)
termination_by n
decreasing_by omega
theorem wds_zero : wds 0 = [] := by unfold wds; simp
theorem wds_pos {n : Nat} (h : n ≠ 0) : wds n = n % 65536 :: wds (n / 65536) := by rw [wds, dif_neg h]
/-- the number of words -/
def vw : List Nat → Nat
  | [] => 0
  | x :: t => x + 65536 * vw t
def Wd (l : List Nat) : Prop := ∀ x ∈ l, x < 65536
theorem vw_wds : ∀ n, vw (wds n) = n := by
  intro n
  induction n using Nat.strongRecOn with
  | _ n ih =>
    by_cases h : n = 0
    · subst h; rw [wds_zero]; rfl
    · rw [wds_pos h, vw, ih _ (by omega)]; omega
theorem wd_wds : ∀ n, Wd (wds n) := by
  intro n
  induction n using Nat.strongRecOn with
  | _ n ih =>
    by_cases h : n = 0
    · subst h; rw [wds_zero]; intro x hx; simp at hx
    · rw [wds_pos h]
      intro x hx
      rcases List.mem_cons.1 hx with rfl | hx
      · omega
      · exact ih _ (by omega) x hx
theorem vw_app : ∀ a b : List Nat, vw (a ++ b) = vw a + 65536 ^ a.length * vw b
  | [], b => by simp [vw]
  | x :: a, b => by
    simp only [List.cons_append, vw, vw_app a b, List.length_cons, Nat.pow_succ]
    rw [Nat.mul_add, ← Nat.mul_assoc, Nat.mul_comm 65536 (65536 ^ a.length)]; omega
theorem vw_lt : ∀ a : List Nat, Wd a → vw a < 65536 ^ a.length
  | [], _ => by decide
  | x :: a, h => by
    have := vw_lt a (fun y hy => h y (by simp [hy]))
    have hx := h x (by simp)
    simp only [vw, List.length_cons, Nat.pow_succ]
    omega
theorem wds_len_le : ∀ (k n : Nat), n < 65536 ^ k → (wds n).length ≤ k := by
  intro k
  induction k with
  | zero => intro n h; simp at h; subst h; rw [wds_zero]; simp
  | succ k ih =>
    intro n h
    by_cases h0 : n = 0
    · subst h0; rw [wds_zero]; simp
    · rw [wds_pos h0, List.length_cons]
      have := ih (n / 65536) (by rw [Nat.pow_succ] at h; omega)
      omega
theorem wds_len_lt (n : Nat) : n < 65536 ^ (wds n).length := by
  have := vw_lt _ (wd_wds n)
  rwa [vw_wds] at this
theorem vw_zero : ∀ l : List Nat, (∀ x ∈ l, x = 0) → vw l = 0
  | [], _ => rfl
  | x :: l, h => by
    have := vw_zero l (fun y hy => h y (by simp [hy]))
    have hx := h x (by simp)
    simp only [vw]; omega
theorem vw_ge : ∀ (l : List Nat) (n : Nat) (hn : n < l.length), l[n] ≠ 0 → 65536 ^ n ≤ vw l := by
  intro l
  induction l with
  | nil => intro n hn; simp at hn
  | cons x l ih =>
    intro n hn h
    cases n with
    | zero => simp at h; simp [vw]; omega
    | succ n =>
      have := ih n (by simpa using hn) (by simpa using h)
      simp only [vw, Nat.pow_succ]; omega
/-- words without noughts above are the number's words -/
theorem wds_vw : ∀ l : List Nat, Wd l → (∀ h : 0 < l.length, l[l.length - 1] ≠ 0) → wds (vw l) = l
  | [], _, _ => wds_zero
  | x :: l, hw, hl => by
    have hx := hw x (by simp)
    have hwl : Wd l := fun y hy => hw y (by simp [hy])
    have h0 : vw (x :: l) ≠ 0 := by
      have := vw_ge (x :: l) l.length (by simp) (by have := hl (by simp); simpa using this)
      have : 0 < 65536 ^ l.length := Nat.pow_pos (by decide)
      omega
    rw [wds_pos h0]
    have h1 : vw (x :: l) % 65536 = x := by simp only [vw]; omega
    have h2 : vw (x :: l) / 65536 = vw l := by simp only [vw]; omega
    rw [h1, h2, wds_vw l hwl (fun h => by
      have := hl (by simp)
      simp only [List.length_cons, Nat.add_sub_cancel] at this
      rw [List.getElem_cons] at this
      simpa [show l.length ≠ 0 by omega] using this)]
theorem wds_last (n : Nat) (h : 0 < (wds n).length) : (wds n)[(wds n).length - 1] ≠ 0 := by
  induction n using Nat.strongRecOn with
  | _ n ih =>
    by_cases h0 : n = 0
    · subst h0; rw [wds_zero] at h; simp at h
    · by_cases h1 : n / 65536 = 0
      · have e : wds n = [n % 65536] := by rw [wds_pos h0, h1, wds_zero]
        simp only [e]
        simp; omega
      · have hl : 0 < (wds (n / 65536)).length := by rw [wds_pos h1]; simp
        have := ih (n / 65536) (by omega) hl
        simp only [wds_pos h0, List.length_cons, Nat.add_sub_cancel]
        rw [List.getElem_cons]
        simpa [show (wds (n / 65536)).length ≠ 0 by omega] using this
/-- 'cut' -/
theorem wds_take {l : List Nat} (hw : Wd l) {n : Nat} (hn : n ≤ l.length) (h0 : ∀ x ∈ l.drop n, x = 0) (hl : n = 0 ∨ ∃ h : n - 1 < l.length, l[n - 1] ≠ 0) : l.take n = wds (vw l) := by
  have e : vw l = vw (l.take n) := by
    have := vw_app (l.take n) (l.drop n)
    rw [List.take_append_drop, vw_zero _ h0] at this
    omega
  rw [e, wds_vw (l.take n) (fun x hx => hw x (List.mem_of_mem_take hx))]
  intro h
  rcases hl with rfl | ⟨h1, h2⟩
  · simp at h
  · have e2 : (l.take n).length = n := by simp [Nat.min_eq_left hn]
    simp only [e2, List.getElem_take]
    exact h2
theorem vw_drop {l : List Nat} {k : Nat} (hk : k < l.length) : vw (l.drop k) = l[k] + 65536 * vw (l.drop (k + 1)) := by
  rw [List.drop_eq_getElem_cons hk]; rfl
theorem vw_take {l : List Nat} {k : Nat} (hk : k < l.length) : vw (l.take (k + 1)) = vw (l.take k) + 65536 ^ k * l[k] := by
  rw [List.take_succ_eq_append_getElem hk, vw_app]
  simp [vw, Nat.min_eq_left (Nat.le_of_lt hk)]
theorem vw_set : ∀ (l : List Nat) (j y : Nat) (hj : j < l.length), vw (l.set j y) + 65536 ^ j * l[j] = vw l + 65536 ^ j * y := by
  intro l
  induction l with
  | nil => intro j y hj; simp at hj
  | cons x l ih =>
    intro j y hj
    cases j with
    | zero => simp [vw]; omega
    | succ j =>
      have := ih j y (by simpa using hj)
      simp only [List.set_cons_succ, vw, List.getElem_cons_succ, Nat.pow_succ]
      have e1 : 65536 ^ j * 65536 * l[j]'(by simpa using hj) = 65536 * (65536 ^ j * l[j]'(by simpa using hj)) := by rw [Nat.mul_right_comm, Nat.mul_comm, ]
      have e2 : 65536 ^ j * 65536 * y = 65536 * (65536 ^ j * y) := by rw [Nat.mul_right_comm, Nat.mul_comm]
      rw [e1, e2]
      omega
theorem wd_set {l : List Nat} (hw : Wd l) {j y : Nat} (hy : y < 65536) : Wd (l.set j y) := fun x hx => by
  rcases List.mem_or_eq_of_mem_set hx with h | rfl
  · exact hw x h
  · exact hy
theorem wd_snoc {l : List Nat} (hw : Wd l) {y : Nat} (hy : y < 65536) : Wd (l ++ [y]) := fun x hx => by
  rcases List.mem_append.1 hx with h | h
  · exact hw x h
  · rw [List.mem_singleton.1 h]; exact hy

/-- order of amounts, from above -/
def sz (a b : List Nat) : Int := if vw a < vw b then -1 else if vw b < vw a then 1 else 0
theorem vw_len_lt {a b : Nat} (h : (wds a).length < (wds b).length) : a < b := by
  have h1 := wds_len_lt a
  have h2 := vw_ge (wds b) ((wds b).length - 1) (by omega) (wds_last b (by omega))
  rw [vw_wds] at h2
  have h3 : 65536 ^ (wds a).length ≤ 65536 ^ ((wds b).length - 1) := Nat.pow_le_pow_right (by decide) (by omega)
  omega
/-- the words from place n on are the same, and at n - 1 a's is less -/
theorem vw_below {a b : List Nat} (ha : Wd a) {n : Nat} (hn : n < a.length) (hn2 : n < b.length) (he : a.drop (n + 1) = b.drop (n + 1)) (hlt : a[n] < b[n]) : vw a < vw b := by
  have e1 := vw_app (a.take n) (a.drop n)
  have e2 := vw_app (b.take n) (b.drop n)
  rw [List.take_append_drop, vw_drop hn, he, List.length_take, Nat.min_eq_left (Nat.le_of_lt hn)] at e1
  rw [List.take_append_drop, vw_drop hn2, List.length_take, Nat.min_eq_left (Nat.le_of_lt hn2)] at e2
  have h1 := vw_lt (a.take n) (fun x hx => ha x (List.mem_of_mem_take hx))
  rw [List.length_take, Nat.min_eq_left (Nat.le_of_lt hn)] at h1
  generalize 65536 * vw (b.drop (n + 1)) = X at *
  have h2 : 65536 ^ n * (a[n] + X) + 65536 ^ n ≤ 65536 ^ n * (b[n] + X) := by
    have := Nat.mul_le_mul_left (65536 ^ n) (show a[n] + X + 1 ≤ b[n] + X by omega)
    rw [Nat.mul_add _ _ 1] at this
    omega
  omega
theorem wds_mul_len (a b : Nat) : (wds (a * b)).length ≤ (wds a).length + (wds b).length := by
  refine wds_len_le _ _ ?_
  have h1 := wds_len_lt a
  have h2 := wds_len_lt b
  rw [Nat.pow_add]
  exact Nat.mul_lt_mul'' h1 h2
theorem wds_add_len (a b : Nat) : (wds (a + b)).length ≤ max (wds a).length (wds b).length + 1 := by
  refine wds_len_le _ _ ?_
  have h1 := wds_len_lt a
  have h2 := wds_len_lt b
  have h3 : 65536 ^ (wds a).length ≤ 65536 ^ max (wds a).length (wds b).length := Nat.pow_le_pow_right (by decide) (Nat.le_max_left _ _)
  have h4 : 65536 ^ (wds b).length ≤ 65536 ^ max (wds a).length (wds b).length := Nat.pow_le_pow_right (by decide) (Nat.le_max_right _ _)
  rw [Nat.pow_succ]
  omega
theorem wds_le_len {a b : Nat} (h : a ≤ b) : (wds a).length ≤ (wds b).length := wds_len_le _ _ (Nat.lt_of_le_of_lt h (wds_len_lt b))
end Go.Proofs.Ytjcgkhcbdbbdkaa
