/-
  Whole numbers of any size as words of base 65536, in plain Lean: no program is named here. Whole numbers of words: what holds one; Word, cut, made, Neg, Sign. Amounts of words: plus, less, size. Whole numbers of words: Add, Sub, Cmp, Int. Whole numbers of words: Sub, Cmp, Int. Whole numbers of words: Mul.
-/
import Derived.Test.YtfdjdfobhkmlpaaChecked
import Derived.Test.YtfdjdfobhkmlpaaCore
import Derived.Deep.OwnRows
namespace Go.Proofs.Ytfdjdfobhkmlpaa

/-- a number's words, the lowest first, no nought above -/
def wds (n : Nat) : List Nat := if h : n = 0 then [] else n % 65536 :: wds (n / 65536)
termination_by n
decreasing_by omega
theorem wds_zero : wds 0 = [] := by unfold wds; simp
theorem wds_pos {n : Nat} (h : n ≠ 0) : wds n = n % 65536 :: wds (n / 65536) := by rw [wds, dif_neg h]
/-- the number of words -/
def vw : List Nat → Nat
  | [] => 0
  | x :: t => x + 65536 * vw t
def Wd (l : List Nat) : Prop := ∀ x ∈ l, x < 65536
theorem vw_wds : ∀ n, vw (wds n) = n := by
  intro n
  induction n using Nat.strongRecOn with
  | _ n ih =>
    by_cases h : n = 0
    · subst h; rw [wds_zero]; rfl
    · rw [wds_pos h, vw, ih _ (by omega)]; omega
theorem wd_wds : ∀ n, Wd (wds n) := by
  intro n
  induction n using Nat.strongRecOn with
  | _ n ih =>
    by_cases h : n = 0
    · subst h; rw [wds_zero]; intro x hx; simp at hx
    · rw [wds_pos h]
      intro x hx
      rcases List.mem_cons.1 hx with rfl | hx
      · omega
      · exact ih _ (by omega) x hx
theorem vw_app : ∀ a b : List Nat, vw (a ++ b) = vw a + 65536 ^ a.length * vw b
  | [], b => by simp [vw]
  | x :: a, b => by
    simp only [List.cons_append, vw, vw_app a b, List.length_cons, Nat.pow_succ]
    rw [Nat.mul_add, ← Nat.mul_assoc, Nat.mul_comm 65536 (65536 ^ a.length)]; omega
theorem vw_lt : ∀ a : List Nat, Wd a → vw a < 65536 ^ a.length
  | [], _ => by decide
  | x :: a, h => by
    have := vw_lt a (fun y hy => h y (by simp [hy]))
    have hx := h x (by simp)
    simp only [vw, List.length_cons, Nat.pow_succ]
    omega
theorem wds_len_le : ∀ (k n : Nat), n < 65536 ^ k → (wds n).length ≤ k := by
  intro k
  induction k with
  | zero => intro n h; simp at h; subst h; rw [wds_zero]; simp
  | succ k ih =>
    intro n h
    by_cases h0 : n = 0
    · subst h0; rw [wds_zero]; simp
    · rw [wds_pos h0, List.length_cons]
      have := ih (n / 65536) (by rw [Nat.pow_succ] at h; omega)
      omega
theorem wds_len_lt (n : Nat) : n < 65536 ^ (wds n).length := by
  have := vw_lt _ (wd_wds n)
  rwa [vw_wds] at this
theorem vw_zero : ∀ l : List Nat, (∀ x ∈ l, x = 0) → vw l = 0
  | [], _ => rfl
  | x :: l, h => by
    have := vw_zero l (fun y hy => h y (by simp [hy]))
    have hx := h x (by simp)
    simp only [vw]; omega
theorem vw_ge : ∀ (l : List Nat) (n : Nat) (hn : n < l.length), l[n] ≠ 0 → 65536 ^ n ≤ vw l := by
  intro l
  induction l with
  | nil => intro n hn; simp at hn
  | cons x l ih =>
    intro n hn h
    cases n with
    | zero => simp at h; simp [vw]; omega
    | succ n =>
      have := ih n (by simpa using hn) (by simpa using h)
      simp only [vw, Nat.pow_succ]; omega
/-- words without noughts above are the number's words -/
theorem wds_vw : ∀ l : List Nat, Wd l → (∀ h : 0 < l.length, l[l.length - 1] ≠ 0) → wds (vw l) = l
  | [], _, _ => wds_zero
  | x :: l, hw, hl => by
    have hx := hw x (by simp)
    have hwl : Wd l := fun y hy => hw y (by simp [hy])
    have h0 : vw (x :: l) ≠ 0 := by
      have := vw_ge (x :: l) l.length (by simp) (by have := hl (by simp); simpa using this)
      have : 0 < 65536 ^ l.length := Nat.pow_pos (by decide)
      omega
    rw [wds_pos h0]
    have h1 : vw (x :: l) % 65536 = x := by simp only [vw]; omega
    have h2 : vw (x :: l) / 65536 = vw l := by simp only [vw]; omega
    rw [h1, h2, wds_vw l hwl (fun h => by
      have := hl (by simp)
      simp only [List.length_cons, Nat.add_sub_cancel] at this
      rw [List.getElem_cons] at this
      simpa [show l.length ≠ 0 by omega] using this)]
theorem wds_last (n : Nat) (h : 0 < (wds n).length) : (wds n)[(wds n).length - 1] ≠ 0 := by
  induction n using Nat.strongRecOn with
  | _ n ih =>
    by_cases h0 : n = 0
    · subst h0; rw [wds_zero] at h; simp at h
    · by_cases h1 : n / 65536 = 0
      · have e : wds n = [n % 65536] := by rw [wds_pos h0, h1, wds_zero]
        simp only [e]
        simp; omega
      · have hl : 0 < (wds (n / 65536)).length := by rw [wds_pos h1]; simp
        have := ih (n / 65536) (by omega) hl
        simp only [wds_pos h0, List.length_cons, Nat.add_sub_cancel]
        rw [List.getElem_cons]
        simpa [show (wds (n / 65536)).length ≠ 0 by omega] using this
/-- 'cut' -/
theorem wds_take {l : List Nat} (hw : Wd l) {n : Nat} (hn : n ≤ l.length) (h0 : ∀ x ∈ l.drop n, x = 0) (hl : n = 0 ∨ ∃ h : n - 1 < l.length, l[n - 1] ≠ 0) : l.take n = wds (vw l) := by
  have e : vw l = vw (l.take n) := by
    have := vw_app (l.take n) (l.drop n)
    rw [List.take_append_drop, vw_zero _ h0] at this
    omega
  rw [e, wds_vw (l.take n) (fun x hx => hw x (List.mem_of_mem_take hx))]
  intro h
  rcases hl with rfl | ⟨h1, h2⟩
  · simp at h
  · have e2 : (l.take n).length = n := by simp [Nat.min_eq_left hn]
    simp only [e2, List.getElem_take]
    exact h2
theorem vw_drop {l : List Nat} {k : Nat} (hk : k < l.length) : vw (l.drop k) = l[k] + 65536 * vw (l.drop (k + 1)) := by
  rw [List.drop_eq_getElem_cons hk]; rfl
theorem vw_take {l : List Nat} {k : Nat} (hk : k < l.length) : vw (l.take (k + 1)) = vw (l.take k) + 65536 ^ k * l[k] := by
  rw [List.take_succ_eq_append_getElem hk, vw_app]
  simp [vw, Nat.min_eq_left (Nat.le_of_lt hk)]
theorem vw_set : ∀ (l : List Nat) (j y : Nat) (hj : j < l.length), vw (l.set j y) + 65536 ^ j * l[j] = vw l + 65536 ^ j * y := by
  intro l
  induction l with
  | nil => intro j y hj; simp at hj
  | cons x l ih =>
    intro j y hj
    cases j with
    | zero => simp [vw]; omega
    | succ j =>
      have := ih j y (by simpa using hj)
      simp only [List.set_cons_succ, vw, List.getElem_cons_succ, Nat.pow_succ]
      have e1 : 65536 ^ j * 65536 * l[j]'(by simpa using hj) = 65536 * (65536 ^ j * l[j]'(by simpa using hj)) := by rw [Nat.mul_right_comm, Nat.mul_comm, ]
      have e2 : 65536 ^ j * 65536 * y = 65536 * (65536 ^ j * y) := by rw [Nat.mul_right_comm, Nat.mul_comm]
      rw [e1, e2]
      omega
theorem wd_set {l : List Nat} (hw : Wd l) {j y : Nat} (hy : y < 65536) : Wd (l.set j y) := fun x hx => by
  rcases List.mem_or_eq_of_mem_set hx with h | rfl
  · exact hw x h
  · exact hy
theorem wd_snoc {l : List Nat} (hw : Wd l) {y : Nat} (hy : y < 65536) : Wd (l ++ [y]) := fun x hx => by
  rcases List.mem_append.1 hx with h | h
  · exact hw x h
  · rw [List.mem_singleton.1 h]; exact hy

/-- order of amounts, from above -/
def sz (a b : List Nat) : Int := if vw a < vw b then -1 else if vw b < vw a then 1 else 0
theorem vw_len_lt {a b : Nat} (h : (wds a).length < (wds b).length) : a < b := by
  have h1 := wds_len_lt a
  have h2 := vw_ge (wds b) ((wds b).length - 1) (by omega) (wds_last b (by omega))
  rw [vw_wds] at h2
  have h3 : 65536 ^ (wds a).length ≤ 65536 ^ ((wds b).length - 1) := Nat.pow_le_pow_right (by decide) (by omega)
  omega
/-- the words from place n on are the same, and at n - 1 a's is less -/
theorem vw_below {a b : List Nat} (ha : Wd a) {n : Nat} (hn : n < a.length) (hn2 : n < b.length) (he : a.drop (n + 1) = b.drop (n + 1)) (hlt : a[n] < b[n]) : vw a < vw b := by
  have e1 := vw_app (a.take n) (a.drop n)
  have e2 := vw_app (b.take n) (b.drop n)
  rw [List.take_append_drop, vw_drop hn, he, List.length_take, Nat.min_eq_left (Nat.le_of_lt hn)] at e1
  rw [List.take_append_drop, vw_drop hn2, List.length_take, Nat.min_eq_left (Nat.le_of_lt hn2)] at e2
  have h1 := vw_lt (a.take n) (fun x hx => ha x (List.mem_of_mem_take hx))
  rw [List.length_take, Nat.min_eq_left (Nat.le_of_lt hn)] at h1
  generalize 65536 * vw (b.drop (n + 1)) = X at *
  have h2 : 65536 ^ n * (a[n] + X) + 65536 ^ n ≤ 65536 ^ n * (b[n] + X) := by
    have := Nat.mul_le_mul_left (65536 ^ n) (show a[n] + X + 1 ≤ b[n] + X by omega)
    rw [Nat.mul_add _ _ 1] at this
    omega
  omega
theorem wds_mul_len (a b : Nat) : (wds (a * b)).length ≤ (wds a).length + (wds b).length := by
  refine wds_len_le _ _ ?_
  have h1 := wds_len_lt a
  have h2 := wds_len_lt b
  rw [Nat.pow_add]
  exact Nat.mul_lt_mul'' h1 h2
theorem wds_add_len (a b : Nat) : (wds (a + b)).length ≤ max (wds a).length (wds b).length + 1 := by
  refine wds_len_le _ _ ?_
  have h1 := wds_len_lt a
  have h2 := wds_len_lt b
  have h3 : 65536 ^ (wds a).length ≤ 65536 ^ max (wds a).length (wds b).length := Nat.pow_le_pow_right (by decide) (Nat.le_max_left _ _)
  have h4 : 65536 ^ (wds b).length ≤ 65536 ^ max (wds a).length (wds b).length := Nat.pow_le_pow_right (by decide) (Nat.le_max_right _ _)
  rw [Nat.pow_succ]
  omega
theorem wds_le_len {a b : Nat} (h : a ≤ b) : (wds a).length ≤ (wds b).length := wds_len_le _ _ (Nat.lt_of_le_of_lt h (wds_len_lt b))
end Go.Proofs.Ytfdjdfobhkmlpaa

namespace Go.Proofs.Ytfdjdfobhkmlpaa
open Go.RowKit Go.Lib

def W64 (l : List Nat) : List Value := l.map fun (n : Nat) => .int .u64 n
theorem W64_len (l : List Nat) : (W64 l).length = l.length := by simp [W64]
theorem W64_at (l : List Nat) (k : Nat) (h : k < l.length) : (W64 l)[k]? = some (.int .u64 (l[k] : Nat)) := by simp [W64, h]
theorem W64_app (l m : List Nat) : W64 (l ++ m) = W64 l ++ W64 m := by simp [W64]
theorem W64_take (l : List Nat) (k : Nat) : W64 (l.take k) = (W64 l).take k := by simp [W64]
theorem W64_set (l : List Nat) (k n : Nat) : W64 (l.set k n) = (W64 l).set k (.int .u64 n) := by simp [W64, List.map_set]
/-- v holds the whole number z, in no more than k words, which lie in blocks of S -/
def BigR (w : World) (S : Nat → Prop) (v : Value) (z : Int) (k : Nat) : Prop :=
  (wds z.natAbs).length ≤ k ∧ ∃ m, v = .agg #[.bool (decide (z < 0)), m] ∧ Rd w S 1 m (wds z.natAbs).length (W64 (wds z.natAbs))
theorem Rd.set {w : World} {S : Nat → Prop} {size n : Nat} {v : Value} {xs : List Value} (h : Rd w S size v n xs) {B j : Nat} (hB : ∀ b, S b → b ≠ B) (u : Value) : Rd (w.setCell ⟨B, j, none⟩ u) S size v n xs :=
  h.keep fun b hb => by simp [World.setCell, Array.getElem?_modify, (hB b hb).symm]
theorem BigR.gr {w w' : World} {S : Nat → Prop} {v : Value} {z : Int} {k : Nat} (h : BigR w S v z k) (hg : Grow w w') : BigR w' S v z k := by
  obtain ⟨h1, m, h2, h3⟩ := h
  exact ⟨h1, m, h2, h3.gr2 (by decide) hg⟩
theorem BigR.up {w : World} {S : Nat → Prop} {v : Value} {z : Int} {k k' : Nat} (h : BigR w S v z k) (hk : k ≤ k') : BigR w S v z k' := ⟨Nat.le_trans h.1 hk, h.2⟩
theorem BigR.into {w : World} {S T : Nat → Prop} {v : Value} {z : Int} {k : Nat} (h : BigR w S v z k) (hk : ∀ b, S b → T b) : BigR w T v z k := by
  obtain ⟨h1, m, h2, h3⟩ := h
  exact ⟨h1, m, h2, h3.into hk⟩
theorem BigR.lt {w : World} {S : Nat → Prop} {v : Value} {z : Int} {k : Nat} (h : BigR w S v z k) : BigR w (· < w.heap.size) v z k := by
  obtain ⟨h1, m, h2, h3⟩ := h
  exact ⟨h1, m, h2, h3.lt (by decide)⟩
theorem BigR.set {w : World} {S : Nat → Prop} {v : Value} {z : Int} {k : Nat} (h : BigR w S v z k) {B j : Nat} (hB : ∀ b, S b → b ≠ B) (u : Value) : BigR (w.setCell ⟨B, j, none⟩ u) S v z k := by
  obtain ⟨h1, m, h2, h3⟩ := h
  exact ⟨h1, m, h2, h3.set hB u⟩

theorem blk_set {W : World} {B : Nat} {cs : Array Value} {t : TypeId} (h : W.heap[B]? = some (.cells cs t (0, 0))) (j : Nat) (v : Value) : (W.setCell ⟨B, j, none⟩ v).heap[B]? = some (.cells (cs.setIfInBounds j v) t (0, 0)) := by
  simp [World.setCell, Array.getElem?_modify, h]
theorem grow_blk {W W' : World} (hg : Grow W W') {B : Nat} {o : Obj} (h : W.heap[B]? = some o) : W'.heap[B]? = some o := (hg.block B (lt_of_block h)).trans h
theorem blk_al (w : World) (cs : Array Value) (t : TypeId) {w' : World} (hg : Grow (w.alloc (.cells cs t)) w') : w'.heap[w.heap.size]? = some (.cells cs t (0, 0)) := grow_blk hg (heap_alloc_new _ _)
theorem grow_set2 {w W : World} {B : Nat} (hB : w.heap.size ≤ B) (hg : Grow w W) (u0 u1 : Value) : Grow w ((W.setCell ⟨B, 0, none⟩ u0).setCell ⟨B, 1, none⟩ u1) :=
  (hg.set (p := ⟨B, 0, none⟩) hB u0).set (p := ⟨B, 1, none⟩) hB u1


theorem Rd.both {w : World} {S : Nat → Prop} {size n : Nat} {v : Value} {xs : List Value} (h : Rd w S size v n xs) (h0 : 0 < size) : Rd w (fun b => S b ∧ b < w.heap.size) size v n xs := by
  have hl := h.lt h0
  obtain ⟨hl0, A, c, hv, h1, h2, h3, h4⟩ := h
  refine ⟨hl0, A, c, hv, h1, h2, h3, fun hn => ?_⟩
  obtain ⟨b, o, hA, hSb, hc⟩ := h4 hn
  have hx : 0 < xs.length := by rw [hl0]; exact Nat.mul_pos hn h0
  exact ⟨b, o, hA, ⟨hSb, World.block_lt_of_cell? w _ (hc 0 xs[0] (List.getElem?_eq_getElem hx))⟩, hc⟩

theorem wds_len_pos (n : Nat) : 0 < (wds n).length ↔ n ≠ 0 := by
  by_cases h : n = 0
  · subst h; rw [wds_zero]; simp
  · rw [wds_pos h]; simp [h]
theorem rd_slice {w : World} {S : Nat → Prop} {size n : Nat} {v : Value} {xs : List Value} (h : Rd w S size v n xs) : ∃ A c, v = .slice A n c ∧ n ≤ c ∧ c ≤ 9223372036854775807 := by
  obtain ⟨_, A, c, h, h1, h2, _⟩ := h
  exact ⟨A, c, h, h1, h2⟩
/-- with its sign -/
def sg (neg : Bool) (n : Nat) : Int := if neg then -(n : Int) else n
theorem sg_abs (neg : Bool) (n : Nat) : (sg neg n).natAbs = n := by cases neg <;> simp [sg]
theorem sg_neg (neg : Bool) (n : Nat) : decide (sg neg n < 0) = (neg && decide ((0 : Int) < ((wds n).length : Nat))) := by
  have h := wds_len_pos n
  cases neg
  · simp [sg]
  · simp only [sg, if_true, Bool.true_and, decide_eq_decide]
    omega
theorem rd_alloc2 {w : World} {S : Nat → Prop} {o o' : Obj} {size n : Nat} {v : Value} {xs : List Value} (h : Rd (w.alloc o) (fun b => S b ∧ b < w.heap.size) size v n xs) : Rd (w.alloc o') (fun b => S b ∧ b < w.heap.size) size v n xs :=
  h.keep fun b hb => (((Grow.refl w).al o').block b hb.2).trans (((Grow.refl w).al o).block b hb.2).symm

end Go.Proofs.Ytfdjdfobhkmlpaa

namespace Go.Proofs.Ytfdjdfobhkmlpaa
open Go.RowKit Go.Lib

theorem plus_step (v p s A B : Nat) : v + p * (s % 65536) + p * 65536 * (s / 65536 + A + B) = v + p * (s + 65536 * A + 65536 * B) := by
  rw [Nat.mul_assoc, Nat.add_assoc, ← Nat.mul_add]
  congr 2
  omega
theorem less_step {v p x a b c c' A B L La : Nat} (h : v + p * (a + 65536 * A) + L = La + p * (c + (b + 65536 * B))) (e : x % 65536 + c + b = a + 65536 * c') : v + p * (x % 65536) + p * 65536 * A + L = La + p * 65536 * (c' + B) := by
  have h2 := congrArg (p * ·) e
  simp only [Nat.mul_add, ← Nat.mul_assoc] at h h2 ⊢
  omega
theorem vw_snoc (l : List Nat) (x : Nat) : vw (l ++ [x]) = vw l + 65536 ^ l.length * x := by rw [vw_app]; simp [vw]
theorem vw_dropx (l : List Nat) (i : Nat) : ∃ x, x ≤ 65535 * (if i < l.length then 65536 else 0) + x ∧ vw (l.drop i) = x + 65536 * vw (l.drop (i + 1)) := by
  by_cases h : i < l.length
  · exact ⟨l[i], by omega, vw_drop h⟩
  · exact ⟨0, by omega, by rw [List.drop_eq_nil_of_le (by omega), List.drop_eq_nil_of_le (by omega)]; rfl⟩
theorem vw_drop0 {l : List Nat} {i : Nat} (h : ¬ i < l.length) : vw (l.drop i) = 0 + 65536 * vw (l.drop (i + 1)) := by
  rw [List.drop_eq_nil_of_le (by omega), List.drop_eq_nil_of_le (by omega)]; rfl
theorem rd_at {w wr : World} {S : Nat → Prop} {A : Option Addr} {n c : Nat} {xs : List Value} (h : Rd w S 1 (.slice A n c) n xs) (hg : Grow w wr) {j : Nat} {u : Value} (hj : xs[j]? = some u) : ∃ b o, A = some ⟨b, o, none⟩ ∧ wr.cell? ⟨b, o + j, none⟩ = some u := by
  obtain ⟨hl, A', c', hv, h1, h2, h3, h4⟩ := h.gr2 (by decide) hg
  injection hv with e1 _ _
  subst e1
  have hlt := (List.getElem?_eq_some_iff.1 hj).1
  obtain ⟨b, o, rfl, _, hc⟩ := h4 (by omega)
  exact ⟨b, o, rfl, hc j u hj⟩

end Go.Proofs.Ytfdjdfobhkmlpaa

namespace Go.Proofs.Ytfdjdfobhkmlpaa
open Go.RowKit Go.Lib B


theorem sg_add {x y : Int} {p : Bool} (hx : decide (x < 0) = p) (hy : decide (y < 0) = p) : sg p (x.natAbs + y.natAbs) = x + y := by
  cases p <;> simp only [sg, decide_eq_true_eq, decide_eq_false_iff_not] at * <;> simp <;> omega
theorem sg_sub {x y : Int} {p q : Bool} (hx : decide (x < 0) = p) (hy : decide (y < 0) = q) (hne : p ≠ q) (hle : y.natAbs ≤ x.natAbs) : sg p (x.natAbs - y.natAbs) = x + y := by
  cases p <;> cases q <;> simp only [sg, decide_eq_true_eq, decide_eq_false_iff_not] at * <;> simp at * <;> omega

end Go.Proofs.Ytfdjdfobhkmlpaa

namespace Go.Proofs.Ytfdjdfobhkmlpaa
open Go.RowKit Go.Lib B



theorem BigR.parts {w : World} {S : Nat → Prop} {v : Value} {z : Int} {k : Nat} (h : BigR w S v z k) : ∃ p A n c, v = .agg #[.bool p, .slice A n c] := by
  obtain ⟨_, m, rfl, hm⟩ := h
  obtain ⟨A, c, rfl, _, _⟩ := rd_slice hm
  exact ⟨_, _, _, _, rfl⟩

theorem wds_int {n : Int} (h : I64 n) : (wds n.natAbs).length ≤ 4 := by
  refine wds_len_le 4 _ ?_
  have e : 65536 ^ 4 = 18446744073709551616 := by decide
  obtain ⟨h1, h2⟩ := h
  omega

end Go.Proofs.Ytfdjdfobhkmlpaa

namespace Go.Proofs.Ytfdjdfobhkmlpaa
open Go.RowKit Go.Lib B


theorem made_w64 (n : Nat) : (madeCells #[.int .u64 0] n).toList = W64 (List.replicate n 0) := by
  rw [toList_madeCells_one]; simp [W64]
theorem wd_zero (n : Nat) : Wd (List.replicate n 0) := fun x hx => by rw [(List.mem_replicate.1 hx).2]; decide
theorem vw_rep (n : Nat) : vw (List.replicate n 0) = 0 := vw_zero _ fun _ hx => (List.mem_replicate.1 hx).2
/-- one step of the inner loop: place j gets t's low word, and the rest is carried -/
theorem mul_step {P t Q V c m z : Nat} (hV : V + P * m = Q + P * (t % 65536)) (ht : t = c + m + z) : V + P * 65536 * (t / 65536) = Q + P * c + P * z := by
  have h : P * t = P * (t % 65536) + P * 65536 * (t / 65536) := by
    rw [Nat.mul_assoc, ← Nat.mul_add]
    congr 1
    omega
  have h2 : P * t = P * c + P * m + P * z := by rw [ht, Nat.mul_add, Nat.mul_add]
  omega
theorem mul_next {i k a b Q u : Nat} : Q + 65536 ^ i * (a * u) + 65536 ^ (i + k) * (a * b) = Q + 65536 ^ i * (a * (u + 65536 ^ k * b)) := by
  rw [Nat.pow_add, Nat.mul_add, Nat.mul_add, Nat.add_assoc, Nat.mul_assoc, Nat.mul_left_comm (65536 ^ k)]
theorem mul_out {i a u L : Nat} : u * L + 65536 ^ i * (a * L) = (u + 65536 ^ i * a) * L := by
  rw [Nat.add_mul, Nat.mul_assoc]
theorem vw_set0 {l : List Nat} {j y : Nat} (hj : j < l.length) (h0 : l[j] = 0) : vw (l.set j y) = vw l + 65536 ^ j * y := by
  have := vw_set l j y hj
  rw [h0] at this
  simpa using this

end Go.Proofs.Ytfdjdfobhkmlpaa
