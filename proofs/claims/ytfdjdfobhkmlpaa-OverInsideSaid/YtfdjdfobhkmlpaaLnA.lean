/-
  Rings clipped at a window, in plain Lean: a ring that lies in it; a ring that begins elsewhere. Lines clipped at a window, in plain Lean: where a segment is in the window; moved lines. Lines clipped at a window, in plain Lean: moved lines. Chapter 24's laws: their own helpers, the example; which spots a clipped line has.
-/
import Derived.Test.YtfdjdfobhkmlpaaChecked
import Derived.Test.YtfdjdfobhkmlpaaRngB
import Derived.Test.YtfdjdfobhkmlpaaLClip
namespace Go.Proofs.Ytfdjdfobhkmlpaa
open Go.RowKit B

theorem clip_all {h : Hf} {l : List Node} (hl : ∀ n ∈ l, h.has n.s = true) : h.clip l = l := by
  have H : ∀ k, k ≤ l.length → cycTo h.clip1 l k = l.take k := by
    intro k
    induction k with
    | zero => intro _; rfl
    | succ k ih =>
      intro hk
      have hm : (k + 1) % l.length < l.length := Nat.mod_lt _ (by omega)
      rw [cycTo_succ _ _ _ (by omega) hm, ih (by omega), List.take_succ_eq_append_getElem (by omega)]
      congr 1
      unfold Hf.clip1
      rw [if_pos (hl _ (List.getElem_mem _)), if_pos (hl _ (List.getElem_mem _)), if_pos (hl _ (List.getElem_mem _))]
      rfl
  have := H l.length (Nat.le_refl _)
  rwa [List.take_length] at this
theorem cyc_st (l : List Pt) : ∀ k, k ≤ l.length → (cycTo stN l k).map Node.s = (l.take k).map wholeSpot
  | 0, _ => rfl
  | k + 1, h => by
    rw [cycTo_succ _ _ _ (by omega) (Nat.mod_lt _ (by omega)), List.map_append, cyc_st l k (by omega), List.take_succ_eq_append_getElem (by omega), List.map_append]
    rfl
theorem fcmp_whole {x c : Int} (hx : inw x = true) : fcmpS ⟨x, 0, 1⟩ c = cmpI' x c := by
  have hr : Fr.right ⟨x, 0, 1⟩ = true := by simp [Fr.right, hx]
  unfold fcmpS
  rw [if_pos hr]
  simp only [orL]
  by_cases h : cmpI' x c = 0
  · rw [if_neg (by simpa using h), if_neg (by simp [cmpI'])]
    exact h.symm
  · rw [if_pos h]
theorem cmpI'_ge {x c : Int} : 0 ≤ cmpI' x c ↔ c ≤ x := by unfold cmpI'; split <;> (try split) <;> omega
theorem cmpI'_le {x c : Int} : cmpI' x c ≤ 0 ↔ x ≤ c := by unfold cmpI'; split <;> (try split) <;> omega
theorem lineE_far {l : List Pt} {lo hi : Int} (h : lineE l lo hi = 0) : lo ≤ hi ∧ inw lo = true ∧ inw hi = true ∧ ∀ p ∈ l, inw p.x = true ∧ inw p.y = true := by
  unfold lineE at h
  split at h
  · omega
  · rename_i h1
    split at h
    · omega
    · rename_i h2
      simp only [Bool.or_eq_true, not_or, Bool.not_eq_true', Bool.not_eq_false, Bool.not_eq_true] at h2
      refine ⟨by omega, by simpa using h2.1.1, by simpa using h2.1.2, fun p hp => ?_⟩
      have := List.any_eq_false.1 h2.2 p hp
      unfold Pt.far at this
      cases h5 : inw p.x <;> cases h6 : inw p.y <;> simp_all
/-- P25.2: a ring that lies in the window is itself -/
theorem ring_inside {l : List Pt} {lo hi : Int} (he : lineE l lo hi = 0) (hi' : l.all (fun p => p.inside lo hi) = true) : ringR l lo hi = l.map wholeSpot := by
  obtain ⟨_, _, _, hf⟩ := lineE_far he
  have key : ∀ h ∈ halves lo hi, ∀ n ∈ cycTo stN l l.length, h.has n.s = true := by
    intro h hh n hn
    obtain ⟨a, ha, b, hb, hx⟩ := mem_cyc hn
    rw [List.mem_singleton.1 hx]
    have hp := List.all_eq_true.1 hi' a ha
    simp only [Pt.inside, Bool.and_eq_true, decide_eq_true_eq] at hp
    obtain ⟨⟨⟨p1, p2⟩, p3⟩, p4⟩ := hp
    have fx := fun c => fcmp_whole (c := c) (hf a ha).1
    have fy := fun c => fcmp_whole (c := c) (hf a ha).2
    simp only [halves, List.mem_cons, List.not_mem_nil, or_false] at hh
    rcases hh with rfl | rfl | rfl | rfl <;> simp only [Hf.has, wholeSpot, if_true, Bool.false_eq_true, if_false, fx, fy, decide_eq_true_eq, cmpI'_ge, cmpI'_le] <;> omega
  have fold : ∀ hs : List Hf, (∀ h ∈ hs, h ∈ halves lo hi) → hs.foldl (fun ns h => h.clip ns) (cycTo stN l l.length) = cycTo stN l l.length := by
    intro hs
    induction hs with
    | nil => intro _; rfl
    | cons h hs ih =>
      intro hm
      rw [List.foldl_cons, clip_all (key h (hm h (by simp)))]
      exact ih fun g hg => hm g (by simp [hg])
  unfold ringR ringS ringTo
  rw [if_pos he, fold _ (fun h hh => List.mem_of_mem_take hh), cyc_st l _ (Nat.le_refl _), List.take_length]

/-- b is a, begun elsewhere -/
def IsRot {α : Type} (a b : List α) : Prop := ∃ u v, a = u ++ v ∧ b = v ++ u
theorem IsRot.map {α β : Type} (g : α → β) {a b : List α} (h : IsRot a b) : IsRot (a.map g) (b.map g) := by
  obtain ⟨u, v, rfl, rfl⟩ := h
  exact ⟨u.map g, v.map g, by simp, by simp⟩
theorem mod_shift {i a b : Nat} (hi : i < a) : (b + i + 1) % (b + a) = if i + 1 < a then b + (i + 1) else 0 := by
  split
  · rw [Nat.mod_eq_of_lt (by omega)]; omega
  · rw [show b + i + 1 = b + a by omega, Nat.mod_self]
theorem cycAt_rot {α β : Type} (f : α → α → List β) (u v : List α) (i : Nat) (hi : i < u.length) : cycAt f (u ++ v) i = cycAt f (v ++ u) (v.length + i) := by
  unfold cycAt
  have e1 : (u ++ v)[i]? = (v ++ u)[v.length + i]? := by
    rw [List.getElem?_append_left hi, List.getElem?_append_right (by omega)]; congr 1; omega
  have e2 : (u ++ v)[(i + 1) % (u ++ v).length]? = (v ++ u)[(v.length + i + 1) % (v ++ u).length]? := by
    rw [List.length_append, List.length_append, mod_shift hi]
    by_cases h : i + 1 < u.length
    · rw [if_pos h, Nat.mod_eq_of_lt (by omega), List.getElem?_append_left h, List.getElem?_append_right (by omega)]; congr 1; omega
    · rw [if_neg h]
      obtain rfl | hv := Nat.eq_zero_or_pos v.length |>.imp List.eq_nil_of_length_eq_zero id
      · have : i + 1 = u.length := by omega
        simp [this]
      · rw [Nat.mod_eq_of_lt (by omega), List.getElem?_append_right (by omega), List.getElem?_append_left hv]
        congr 1
        omega
  rw [e1, e2]
theorem flat_congr {β : Type} {F G : Nat → List β} : ∀ n, (∀ i, i < n → F i = G i) → (List.range n).flatMap F = (List.range n).flatMap G := by
  intro n
  induction n with
  | zero => intro _; rfl
  | succ n ih =>
    intro h
    rw [List.range_succ, List.flatMap_append, List.flatMap_append, ih fun i hi => h i (by omega)]
    simp [h n (by omega)]
theorem flat_shift {β : Type} (F : Nat → List β) (m : Nat) : ∀ n, (List.range (m + n)).flatMap F = (List.range m).flatMap F ++ (List.range n).flatMap (fun i => F (m + i)) := by
  intro n
  induction n with
  | zero => simp
  | succ n ih =>
    rw [← Nat.add_assoc, List.range_succ, List.flatMap_append, ih, List.range_succ, List.flatMap_append, List.append_assoc]
    simp
theorem cyc_rot {α β : Type} (f : α → α → List β) {a b : List α} (h : IsRot a b) : IsRot (cycTo f a a.length) (cycTo f b b.length) := by
  obtain ⟨u, v, rfl, rfl⟩ := h
  refine ⟨(List.range u.length).flatMap (cycAt f (u ++ v)), (List.range v.length).flatMap (cycAt f (v ++ u)), ?_, ?_⟩
  · unfold cycTo
    rw [List.length_append, flat_shift]
    congr 1
    exact flat_congr _ fun i hi => (cycAt_rot f v u i hi).symm
  · unfold cycTo
    rw [List.length_append, flat_shift]
    congr 1
    exact flat_congr _ fun i hi => (cycAt_rot f u v i hi).symm
theorem ring_rot {a b : List Pt} (lo hi : Int) (h : IsRot a b) : IsRot (ringS a lo hi) (ringS b lo hi) := by
  unfold ringS ringTo
  refine IsRot.map _ ?_
  have h0 := cyc_rot stN h
  generalize (halves lo hi).take 4 = hs
  generalize cycTo stN a a.length = x at h0
  generalize cycTo stN b b.length = y at h0
  induction hs generalizing x y with
  | nil => exact h0
  | cons g hs ih => exact ih _ _ (cyc_rot g.clip1 h0)
theorem lineE_rot {u v : List Pt} {lo hi : Int} : lineE (v ++ u) lo hi = lineE (u ++ v) lo hi := by
  unfold lineE
  rw [List.any_append, List.any_append, Bool.or_comm (v.any _)]
/-- where it begins -/
theorem rot_at {α : Type} {a b : List α} (h : IsRot a b) (h0 : a ≠ []) : ∃ i, i < a.length ∧ ∀ m (hm : m < b.length), a[(i + m) % a.length]? = some (b[m]) := by
  obtain ⟨u, v, rfl, rfl⟩ := h
  by_cases hv : v = []
  · subst hv
    simp only [List.append_nil, List.nil_append] at h0 ⊢
    refine ⟨0, List.length_pos_iff.2 h0, fun m hm => ?_⟩
    rw [Nat.zero_add, Nat.mod_eq_of_lt hm, List.getElem?_eq_getElem hm]
  · have hv := List.length_pos_iff.2 hv
    refine ⟨u.length, by rw [List.length_append]; omega, fun m hm => ?_⟩
    rw [← List.getElem?_eq_getElem hm, List.length_append]
    rw [List.length_append] at hm
    by_cases h : m < v.length
    · rw [Nat.mod_eq_of_lt (by omega), List.getElem?_append_right (by omega), List.getElem?_append_left h]; congr 1; omega
    · rw [show u.length + m = m - v.length + (u.length + v.length) by omega, Nat.add_mod_right, Nat.mod_eq_of_lt (by omega), List.getElem?_append_left (by omega), List.getElem?_append_right (by omega)]
end Go.Proofs.Ytfdjdfobhkmlpaa

namespace Go.Proofs.Ytfdjdfobhkmlpaa
open Go.RowKit B

theorem sign_pos_iff (x : Int) : 0 < x.sign ↔ 0 < x := by
  rcases Int.lt_trichotomy x 0 with h | h | h
  · rw [Int.sign_eq_neg_one_of_neg h]; omega
  · subst h; simp
  · rw [Int.sign_eq_one_of_pos h]; omega
theorem after_iff (a b : Wn) : a.after b = true ↔ 0 < a.n * b.d - b.n * a.d := by
  unfold Wn.after
  rw [decide_eq_true_eq, cmpW_eq, sign_pos_iff]
theorem after_not (a b : Wn) : a.after b = false ↔ a.n * b.d - b.n * a.d ≤ 0 := by
  rw [← Bool.not_eq_true, after_iff]; omega

/-- one coordinate -/
def co (up : Bool) (p : Pt) : Int := if up = true then p.y else p.x
structure WG (p q : Pt) (lo hi : Int) (a : Wn) : Prop where
  pos : 0 < a.d
  ge : 0 ≤ a.n
  le : a.n ≤ a.d
  en : a.en = true → a.d = 1
  at_ : a.en = false → (a.c = lo ∨ a.c = hi) ∧ co a.up p ≠ co a.up q ∧ a.d = max (co a.up q - co a.up p) (co a.up p - co a.up q) ∧ a.n = (a.c - co a.up p) * (if co a.up q < co a.up p then -1 else 1)
theorem WG0 (p q : Pt) (lo hi : Int) : WG p q lo hi W0 ∧ WG p q lo hi W1 :=
  ⟨⟨by decide, by decide, by decide, fun _ => rfl, fun h => by cases h⟩, ⟨by decide, by decide, by decide, fun _ => rfl, fun h => by cases h⟩⟩
theorem slab_good {p q : Pt} {lo hi : Int} {i0 i1 j0 j1 : Wn} {up : Bool} (h0 : WG p q lo hi i0) (h1 : WG p q lo hi i1) (h : slabS i0 i1 (co up p) (co up q) lo hi up = (j0, j1, true)) : WG p q lo hi j0 ∧ WG p q lo hi j1 := by
  unfold slabS at h
  split at h
  · rw [Prod.mk.injEq, Prod.mk.injEq] at h
    rw [← h.1, ← h.2.1]
    exact ⟨h0, h1⟩
  · rename_i hne
    rw [Prod.mk.injEq, Prod.mk.injEq] at h
    obtain ⟨e0, e1, e2⟩ := h
    rw [e0, e1, Bool.not_eq_true', after_not] at e2
    obtain ⟨A, hA⟩ : ∃ A, slabA (co up p) (co up q) lo hi up = A := ⟨_, rfl⟩
    obtain ⟨B, hB⟩ : ∃ B, slabB (co up p) (co up q) lo hi up = B := ⟨_, rfl⟩
    have Ad : 0 < A.d := by rw [← hA]; show 0 < max _ _; omega
    have Bd : 0 < B.d := by rw [← hB]; show 0 < max _ _; omega
    have Aat : A.en = false ∧ (A.c = lo ∨ A.c = hi) ∧ co A.up p ≠ co A.up q ∧ A.d = max (co A.up q - co A.up p) (co A.up p - co A.up q) ∧ A.n = (A.c - co A.up p) * (if co A.up q < co A.up p then -1 else 1) := by
      rw [← hA]
      refine ⟨rfl, ?_, hne, rfl, rfl⟩
      show (if _ then hi else lo) = lo ∨ (if _ then hi else lo) = hi
      split <;> simp
    have Bat : B.en = false ∧ (B.c = lo ∨ B.c = hi) ∧ co B.up p ≠ co B.up q ∧ B.d = max (co B.up q - co B.up p) (co B.up p - co B.up q) ∧ B.n = (B.c - co B.up p) * (if co B.up q < co B.up p then -1 else 1) := by
      rw [← hB]
      refine ⟨rfl, ?_, hne, rfl, rfl⟩
      show (if _ then lo else hi) = lo ∨ (if _ then lo else hi) = hi
      split <;> simp
    rw [hA] at e0
    rw [hB] at e1
    have J0 : 0 < j0.d ∧ 0 ≤ j0.n ∧ (j0.en = true → j0.d = 1) ∧ (j0.en = false → (j0.c = lo ∨ j0.c = hi) ∧ co j0.up p ≠ co j0.up q ∧ j0.d = max (co j0.up q - co j0.up p) (co j0.up p - co j0.up q) ∧ j0.n = (j0.c - co j0.up p) * (if co j0.up q < co j0.up p then -1 else 1)) := by
      rw [← e0]
      unfold slab0
      split
      · rename_i ha
        rw [after_iff] at ha
        refine ⟨Ad, ?_, fun e => (by rw [Aat.1] at e; cases e), fun _ => Aat.2⟩
        have hp : 0 ≤ i0.n * A.d := Int.mul_nonneg h0.ge (by omega)
        rcases Int.lt_or_le A.n 0 with h | h
        · have := Int.mul_nonneg (show 0 ≤ -A.n by omega) (show 0 ≤ i0.d by have := h0.pos; omega)
          rw [Int.neg_mul] at this
          omega
        · exact h
      · exact ⟨h0.pos, h0.ge, h0.en, h0.at_⟩
    have J1 : 0 < j1.d ∧ j1.n ≤ j1.d ∧ (j1.en = true → j1.d = 1) ∧ (j1.en = false → (j1.c = lo ∨ j1.c = hi) ∧ co j1.up p ≠ co j1.up q ∧ j1.d = max (co j1.up q - co j1.up p) (co j1.up p - co j1.up q) ∧ j1.n = (j1.c - co j1.up p) * (if co j1.up q < co j1.up p then -1 else 1)) := by
      rw [← e1]
      unfold slab1
      split
      · rename_i ha
        rw [after_iff] at ha
        refine ⟨Bd, ?_, fun e => (by rw [Bat.1] at e; cases e), fun _ => Bat.2⟩
        have hp : i1.n * B.d ≤ i1.d * B.d := Int.mul_le_mul_of_nonneg_right h1.le (by omega)
        rcases Int.lt_or_le B.d B.n with h | h
        · have := Int.mul_le_mul_of_nonneg_right (show B.d ≤ B.n by omega) (show 0 ≤ i1.d by have := h1.pos; omega)
          rw [Int.mul_comm i1.d] at hp
          omega
        · exact h
      · exact ⟨h1.pos, h1.le, h1.en, h1.at_⟩
    have k0 : j0.n ≤ j0.d := by
      have h2 : j1.n * j0.d ≤ j1.d * j0.d := Int.mul_le_mul_of_nonneg_right J1.2.1 (by omega)
      rcases Int.lt_or_le j0.d j0.n with h | h
      · have := Int.mul_le_mul_of_nonneg_right (show j0.d + 1 ≤ j0.n by omega) (show 0 ≤ j1.d by omega)
        rw [Int.add_mul, Int.one_mul, Int.mul_comm j0.d j1.d] at this
        omega
      · exact h
    have k1 : 0 ≤ j1.n := by
      have h2 : 0 ≤ j0.n * j1.d := Int.mul_nonneg J0.2.1 (by omega)
      rcases Int.lt_or_le j1.n 0 with h | h
      · have := Int.mul_le_mul_of_nonneg_right (show j1.n ≤ -1 by omega) (show 0 ≤ j0.d by omega)
        omega
      · exact h
    exact ⟨⟨J0.1, J0.2.1, k0, J0.2.2.1, J0.2.2.2⟩, ⟨J1.1, k1, J1.2.1, J1.2.2.1, J1.2.2.2⟩⟩
/-- where a border is met, the line is there -/
theorem WG.met {p q : Pt} {lo hi : Int} {a : Wn} (h : WG p q lo hi a) (he : a.en = false) : if a.up = true then noneB p.swap q.swap a.c = false else noneB p q a.c = false := by
  obtain ⟨h1, h2, h3, h4⟩ := h.at_ he
  have g := h.ge
  have l := h.le
  have key : min (co a.up p) (co a.up q) ≤ a.c ∧ a.c ≤ max (co a.up p) (co a.up q) := by
    split at h4 <;> omega
  cases hu : a.up with
  | true =>
    rw [hu] at key h2
    unfold co at key h2
    simp only [if_true] at key h2
    show noneB p.swap q.swap a.c = false
    unfold noneB Pt.swap
    simp only [Bool.or_eq_false_iff, decide_eq_false_iff_not]
    omega
  | false =>
    rw [hu] at key h2
    unfold co at key h2
    simp only [Bool.false_eq_true, if_false] at key h2
    show noneB p q a.c = false
    unfold noneB
    simp only [Bool.or_eq_false_iff, decide_eq_false_iff_not]
    omega
theorem segBad_false {p q : Pt} {lo hi : Int} : segBad p q lo hi = false ↔ lo ≤ hi ∧ p.far = false ∧ q.far = false ∧ inw lo = true ∧ inw hi = true := by
  unfold segBad Pt.far
  simp only [List.any_cons, List.any_nil, Bool.or_eq_false_iff, decide_eq_false_iff_not, Bool.not_eq_false', Bool.or_false, Int.not_lt]
  constructor
  · rintro ⟨h1, h2, h3, h4, h5, h6, h7⟩
    exact ⟨h1, ⟨h2, h3⟩, ⟨h4, h5⟩, h6, h7⟩
  · rintro ⟨h1, ⟨h2, h3⟩, ⟨h4, h5⟩, h6, h7⟩
    exact ⟨h1, h2, h3, h4, h5, h6, h7⟩
/-- what a segment in the window is made of -/
theorem segT_ok {p q : Pt} {lo hi : Int} {a b : Spot} (h : segT p q lo hi = (a, b, true)) : ∃ k0 k1, segBad p q lo hi = false ∧ WG p q lo hi k0 ∧ WG p q lo hi k1 ∧ a = spotW k0 p q p ∧ b = spotW k1 p q q := by
  unfold segT at h
  split at h
  · cases h
  · rename_i hb
    dsimp only at h
    split at h
    · cases h
    · rename_i h1
      split at h
      · cases h
      · rename_i h2
        rw [Prod.mk.injEq, Prod.mk.injEq] at h
        obtain ⟨j0, j1, ok1, hs1⟩ : ∃ j0 j1 ok, slabS W0 W1 p.x q.x lo hi false = (j0, j1, ok) := ⟨_, _, _, rfl⟩
        obtain ⟨k0, k1, ok2, hs2⟩ : ∃ j0' j1' ok, slabS j0 j1 p.y q.y lo hi true = (j0', j1', ok) := ⟨_, _, _, rfl⟩
        rw [hs1] at h h1 h2
        dsimp only at h h1 h2
        rw [hs2] at h h2
        dsimp only at h h2
        have o1 : ok1 = true := by simpa using h1
        have o2 : ok2 = true := by simpa using h2
        subst o1 o2
        have g1 := slab_good (up := false) (WG0 p q lo hi).1 (WG0 p q lo hi).2 hs1
        have g2 := slab_good (up := true) g1.1 g1.2 hs2
        exact ⟨k0, k1, by simpa using hb, g2.1, g2.2, h.1.symm, h.2.1.symm⟩
end Go.Proofs.Ytfdjdfobhkmlpaa

namespace Go.Proofs.Ytfdjdfobhkmlpaa
open Go.RowKit B

def mvP (n : Int) (p : Pt) : Pt := ⟨p.x + n, p.y + n⟩
def mvF (n : Int) (f : Fr) : Fr := ⟨f.q + n, f.r, f.d⟩
def mvS (n : Int) (s : Spot) : Spot := ⟨mvF n s.x, mvF n s.y⟩
def mvW (n : Int) (a : Wn) : Wn := ⟨a.n, a.d, if a.en = true then a.c else a.c + n, a.up, a.en⟩
theorem mvS_inj {n : Int} {a b : Spot} (h : mvS n a = mvS n b) : a = b := by
  obtain ⟨⟨a1, a2, a3⟩, ⟨a4, a5, a6⟩⟩ := a
  obtain ⟨⟨b1, b2, b3⟩, ⟨b4, b5, b6⟩⟩ := b
  simp only [mvS, mvF, Spot.mk.injEq, Fr.mk.injEq] at h ⊢
  omega
theorem after_mv (n : Int) (a b : Wn) : (mvW n a).after (mvW n b) = a.after b := rfl
theorem slabA_mv (n s t lo hi : Int) (up : Bool) : slabA (s + n) (t + n) (lo + n) (hi + n) up = mvW n (slabA s t lo hi up) ∧ slabB (s + n) (t + n) (lo + n) (hi + n) up = mvW n (slabB s t lo hi up) := by
  unfold slabA slabB mvW
  by_cases h : t < s
  · simp only [if_pos h, if_pos (show t + n < s + n by omega), Bool.false_eq_true, if_false]
    constructor
    · rw [show hi + n - (s + n) = hi - s by omega, show t + n - (s + n) = t - s by omega, show s + n - (t + n) = s - t by omega]
    · rw [show lo + n - (s + n) = lo - s by omega, show t + n - (s + n) = t - s by omega, show s + n - (t + n) = s - t by omega]
  · simp only [if_neg h, if_neg (show ¬ t + n < s + n by omega), Bool.false_eq_true, if_false]
    constructor
    · rw [show lo + n - (s + n) = lo - s by omega, show t + n - (s + n) = t - s by omega, show s + n - (t + n) = s - t by omega]
    · rw [show hi + n - (s + n) = hi - s by omega, show t + n - (s + n) = t - s by omega, show s + n - (t + n) = s - t by omega]
theorem slab_mv {n s t lo hi : Int} {up ok : Bool} {i0 i1 j0 j1 : Wn} (h : slabS i0 i1 s t lo hi up = (j0, j1, ok)) : slabS (mvW n i0) (mvW n i1) (s + n) (t + n) (lo + n) (hi + n) up = (mvW n j0, mvW n j1, ok) := by
  unfold slabS at h ⊢
  by_cases he : s = t
  · rw [if_pos he] at h
    rw [if_pos (by omega)]
    rw [Prod.mk.injEq, Prod.mk.injEq] at h
    obtain ⟨rfl, rfl, rfl⟩ := h
    rw [show decide (lo + n ≤ s + n) = decide (lo ≤ s) from decide_eq_decide.2 (by omega), show decide (s + n ≤ hi + n) = decide (s ≤ hi) from decide_eq_decide.2 (by omega)]
  · rw [if_neg he] at h
    rw [if_neg (by omega), (slabA_mv n s t lo hi up).1, (slabA_mv n s t lo hi up).2]
    rw [Prod.mk.injEq, Prod.mk.injEq] at h
    obtain ⟨h0, h1, h2⟩ := h
    have e0 : slab0 (mvW n (slabA s t lo hi up)) (mvW n i0) = mvW n j0 := by
      rw [← h0]
      unfold slab0
      rw [after_mv]
      split <;> rfl
    have e1 : slab1 (mvW n (slabB s t lo hi up)) (mvW n i1) = mvW n j1 := by
      rw [← h1]
      unfold slab1
      rw [after_mv]
      split <;> rfl
    rw [e0, e1, after_mv, ← h2, h0, h1]
theorem crossF_mv (n : Int) (p q : Pt) (c : Int) : crossF (mvP n p) (mvP n q) (c + n) = mvF n (crossF p q c) := by
  have hX : crossX (mvP n p) (mvP n q) (c + n) = crossX p q c := by
    unfold crossX mvP
    dsimp only
    rw [show q.x + n - (p.x + n) = q.x - p.x by omega, show c + n - (p.x + n) = c - p.x by omega, show q.y + n - (p.y + n) = q.y - p.y by omega]
  have hD : crossD (mvP n p) (mvP n q) = crossD p q := by
    unfold crossD mvP
    dsimp only
    rw [show q.x + n - (p.x + n) = q.x - p.x by omega]
  unfold crossF
  rw [hX, hD]
  unfold lowF mvF mvP
  dsimp only
  rw [show p.y + n + crossX p q c / (crossD p q : Int) = p.y + crossX p q c / (crossD p q : Int) + n by omega]
theorem noneB_mv (n : Int) (p q : Pt) (c : Int) : noneB (mvP n p) (mvP n q) (c + n) = noneB p q c := by
  unfold noneB mvP
  dsimp only
  rw [show decide (p.x + n = q.x + n) = decide (p.x = q.x) from decide_eq_decide.2 (by omega), show decide (c + n < min (p.x + n) (q.x + n)) = decide (c < min p.x q.x) from decide_eq_decide.2 (by omega), show decide (max (p.x + n) (q.x + n) < c + n) = decide (max p.x q.x < c) from decide_eq_decide.2 (by omega)]
theorem spotW_mv {n : Int} {a : Wn} {p q e : Pt} {lo hi : Int} (h : WG p q lo hi a) (hp : p.far = false) (hq : q.far = false) (hp' : (mvP n p).far = false) (hq' : (mvP n q).far = false) (hl : inw lo = true) (hh : inw hi = true) (hl' : inw (lo + n) = true) (hh' : inw (hi + n) = true) :
    spotW (mvW n a) (mvP n p) (mvP n q) (mvP n e) = mvS n (spotW a p q e) := by
  unfold spotW
  cases he : a.en with
  | true =>
    have : (mvW n a).en = true := he
    rw [if_pos this, if_pos rfl]
    rfl
  | false =>
    have h1 : (mvW n a).en = false := he
    have hc : (mvW n a).c = a.c + n := by unfold mvW; rw [he]; rfl
    have hw : inw a.c = true ∧ inw (a.c + n) = true := by
      rcases (h.at_ he).1 with e | e
      · rw [e]; exact ⟨hl, hl'⟩
      · rw [e]; exact ⟨hh, hh'⟩
    have hm := h.met he
    have hX : (crossS (mvP n p) (mvP n q) (a.c + n) a.up).1 = mvF n (crossS p q a.c a.up).1 := by
      unfold crossS
      rw [hp, hq, hp', hq', hw.1, hw.2]
      simp only [Bool.false_or, Bool.not_true, Bool.false_eq_true, if_false]
      cases hu : a.up with
      | true =>
        rw [hu] at hm
        simp only [if_true] at hm ⊢
        have e1 : (mvP n p).swap = mvP n p.swap := rfl
        have e2 : (mvP n q).swap = mvP n q.swap := rfl
        unfold crossC
        rw [e1, e2, noneB_mv, hm, crossF_mv]
        rfl
      | false =>
        rw [hu] at hm
        simp only [Bool.false_eq_true, if_false] at hm ⊢
        unfold crossC
        rw [noneB_mv, hm, crossF_mv]
        rfl
    rw [h1, hc, show (mvW n a).up = a.up from rfl, hX]
    simp only [Bool.false_eq_true, if_false]
    split <;> rfl
def mvT (n : Int) (t : Spot × Spot × Bool) : Spot × Spot × Bool := if t.2.2 = true then (mvS n t.1, mvS n t.2.1, true) else (zeroSpot, zeroSpot, false)
theorem segT_mv {n : Int} {p q : Pt} {lo hi : Int} (h : lo ≤ hi) (hp : p.far = false) (hq : q.far = false) (hp' : (mvP n p).far = false) (hq' : (mvP n q).far = false) (hl : inw lo = true) (hh : inw hi = true) (hl' : inw (lo + n) = true) (hh' : inw (hi + n) = true) :
    segT (mvP n p) (mvP n q) (lo + n) (hi + n) = mvT n (segT p q lo hi) := by
  have b1 : segBad p q lo hi = false := segBad_false.2 ⟨h, hp, hq, hl, hh⟩
  have b2 : segBad (mvP n p) (mvP n q) (lo + n) (hi + n) = false := segBad_false.2 ⟨by omega, hp', hq', hl', hh'⟩
  obtain ⟨j0, j1, ok1, hs1⟩ : ∃ j0 j1 ok, slabS W0 W1 p.x q.x lo hi false = (j0, j1, ok) := ⟨_, _, _, rfl⟩
  obtain ⟨k0, k1, ok2, hs2⟩ : ∃ j0' j1' ok, slabS j0 j1 p.y q.y lo hi true = (j0', j1', ok) := ⟨_, _, _, rfl⟩
  have m1 := slab_mv (n := n) hs1
  have m2 := slab_mv (n := n) hs2
  have z0 : mvW n W0 = W0 := rfl
  have z1 : mvW n W1 = W1 := rfl
  rw [z0, z1] at m1
  unfold segT
  rw [b1, b2]
  simp only [Bool.false_eq_true, if_false]
  rw [show (mvP n p).x = p.x + n from rfl, show (mvP n q).x = q.x + n from rfl, show (mvP n p).y = p.y + n from rfl, show (mvP n q).y = q.y + n from rfl, m1, hs1]
  dsimp only
  rw [m2, hs2]
  dsimp only
  cases ok1 with
  | false => rfl
  | true =>
    cases ok2 with
    | false => rfl
    | true =>
      have g1 := slab_good (up := false) (WG0 p q lo hi).1 (WG0 p q lo hi).2 hs1
      have g2 := slab_good (up := true) g1.1 g1.2 hs2
      rw [spotW_mv g2.1 hp hq hp' hq' hl hh hl' hh', spotW_mv g2.2 hp hq hp' hq' hl hh hl' hh']
      rfl
def mvL (n : Int) (st : LS) : LS := (st.1.map (List.map (mvS n)), st.2.map (mvS n))
theorem putS_mv (n : Int) (l : List Spot) (s : Spot) : putS (l.map (mvS n)) (mvS n s) = (putS l s).map (mvS n) := by
  unfold putS
  rw [List.getLast?_map]
  by_cases h : l.getLast? = some s
  · rw [if_pos h, h, Option.map_some, if_pos rfl]
  · rw [if_neg h, if_neg, List.map_append]
    · rfl
    · intro e
      cases hl : l.getLast? with
      | none => rw [hl] at e; cases e
      | some x =>
        rw [hl, Option.map_some, Option.some.injEq] at e
        exact h (by rw [hl, mvS_inj e])
theorem endS_mv (n : Int) (st : LS) : endS (mvL n st) = mvL n (endS st) := by
  unfold endS mvL
  dsimp only
  by_cases h : st.2 = []
  · rw [if_pos h, if_pos (by rw [h]; rfl)]
    simp
  · rw [if_neg h, if_neg (by simpa using h)]
    simp
theorem inside_mv (n : Int) (p : Pt) (lo hi : Int) : (mvP n p).inside (lo + n) (hi + n) = p.inside lo hi := by
  unfold Pt.inside mvP
  dsimp only
  rw [show decide (lo + n ≤ p.x + n) = decide (lo ≤ p.x) from decide_eq_decide.2 (by omega), show decide (p.x + n ≤ hi + n) = decide (p.x ≤ hi) from decide_eq_decide.2 (by omega), show decide (lo + n ≤ p.y + n) = decide (lo ≤ p.y) from decide_eq_decide.2 (by omega), show decide (p.y + n ≤ hi + n) = decide (p.y ≤ hi) from decide_eq_decide.2 (by omega)]
theorem clipTo_mv {n : Int} {l : List Pt} {lo hi : Int} (h : lo ≤ hi) (hl : inw lo = true) (hh : inw hi = true) (hl' : inw (lo + n) = true) (hh' : inw (hi + n) = true) (hf : ∀ p ∈ l, p.far = false) (hf' : ∀ p ∈ l, (mvP n p).far = false) :
    ∀ k, clipTo (l.map (mvP n)) (lo + n) (hi + n) k = mvL n (clipTo l lo hi k)
  | 0 => rfl
  | k + 1 => by
    rw [clipTo_succ, clipTo_succ, clipTo_mv h hl hh hl' hh' hf hf' k]
    generalize clipTo l lo hi k = st
    unfold stepL
    rw [List.getElem?_map, List.getElem?_map]
    cases hk : l[k]? with
    | none => rfl
    | some p =>
      have mp := List.mem_of_getElem? hk
      simp only [Option.map_some]
      rw [inside_mv]
      by_cases h0 : k = 0
      · rw [if_pos h0, if_pos h0]
        split
        · show (_, _) = mvL n (_, _)
          unfold mvL
          dsimp only
          rw [show wholeSpot (mvP n p) = mvS n (wholeSpot p) from rfl, putS_mv]
        · rfl
      · rw [if_neg h0, if_neg h0]
        cases hq : l[k - 1]? with
        | none => rfl
        | some q =>
          have mq := List.mem_of_getElem? hq
          simp only [Option.map_some]
          have hS : segS (mvL n st) (mvP n q) (mvP n p) (lo + n) (hi + n) = mvL n (segS st q p lo hi) := by
            unfold segS
            rw [segT_mv h (hf q mq) (hf p mp) (hf' q mq) (hf' p mp) hl hh hl' hh']
            unfold mvT
            by_cases ho : (segT q p lo hi).2.2 = true
            · rw [if_pos ho, if_pos rfl, if_pos ho]
              show (_, _) = mvL n (_, _)
              unfold mvL
              dsimp only
              rw [putS_mv, putS_mv]
            · rw [if_neg ho, if_neg (by decide), if_neg ho]
          rw [hS]
          split
          · rfl
          · rw [endS_mv]
theorem lineE_zero {l : List Pt} {lo hi : Int} : lineE l lo hi = 0 ↔ lo ≤ hi ∧ inw lo = true ∧ inw hi = true ∧ ∀ p ∈ l, p.far = false := by
  unfold lineE
  constructor
  · intro h
    split at h
    · omega
    · split at h
      · omega
      · rename_i h1 h2
        simp only [Bool.or_eq_true, not_or, Bool.not_eq_true', Bool.not_eq_false, Bool.not_eq_true] at h2
        exact ⟨by omega, by simpa using h2.1.1, by simpa using h2.1.2, fun p hp => by simpa using List.any_eq_false.1 h2.2 p hp⟩
  · rintro ⟨h1, h2, h3, h4⟩
    rw [if_neg (by omega), h2, h3]
    have : l.any Pt.far = false := List.any_eq_false.2 fun p hp => by rw [h4 p hp]; decide
    rw [this]
    rfl
/-- P24.2: a line and a window that are both moved -/
theorem clip_mv {n : Int} {l : List Pt} {lo hi : Int} (he : lineE l lo hi = 0) (hl' : inw (lo + n) = true) (hh' : inw (hi + n) = true) (hf' : ∀ p ∈ l, (mvP n p).far = false) :
    lineE (l.map (mvP n)) (lo + n) (hi + n) = 0 ∧ clipR (l.map (mvP n)) (lo + n) (hi + n) = (clipR l lo hi).map (List.map (mvS n)) := by
  obtain ⟨h, hl, hh, hf⟩ := lineE_zero.1 he
  have he' : lineE (l.map (mvP n)) (lo + n) (hi + n) = 0 := lineE_zero.2 ⟨by omega, hl', hh', fun p hp => by
    obtain ⟨q, hq, rfl⟩ := List.mem_map.1 hp
    exact hf' q hq⟩
  refine ⟨he', ?_⟩
  unfold clipR clipL
  rw [if_pos he, if_pos he', List.length_map, clipTo_mv h hl hh hl' hh' hf hf', endS_mv]
  rfl
end Go.Proofs.Ytfdjdfobhkmlpaa

namespace Go.Proofs.Ytfdjdfobhkmlpaa
open Go.RowKit B

theorem segT_ex : segT ⟨0, 0⟩ ⟨6, 3⟩ 1 4 = (⟨⟨2, 0, 1⟩, ⟨1, 0, 1⟩⟩, ⟨⟨4, 0, 1⟩, ⟨2, 0, 1⟩⟩, true) := by decide +kernel

theorem clipL_all {P : Spot → Prop} {l : List Pt} {lo hi : Int} (hw : ∀ p ∈ l, p.inside lo hi = true → P (wholeSpot p)) (hs : ∀ p ∈ l, ∀ q ∈ l, ∀ a b, segT p q lo hi = (a, b, true) → P a ∧ P b) :
    ∀ part ∈ clipL l lo hi, ∀ s ∈ part, P s := by
  have put : ∀ (m : List Spot) (s : Spot), (∀ x ∈ m, P x) → P s → ∀ x ∈ putS m s, P x := by
    intro m s hm h x hx
    unfold putS at hx
    split at hx
    · exact hm x hx
    · rcases List.mem_append.1 hx with hx | hx
      · exact hm x hx
      · rw [List.mem_singleton.1 hx]; exact h
  have en : ∀ st : LS, (∀ part ∈ st.1, ∀ s ∈ part, P s) → (∀ s ∈ st.2, P s) → (∀ part ∈ (endS st).1, ∀ s ∈ part, P s) := by
    intro st h1 h2 part hp
    unfold endS at hp
    dsimp only at hp
    rcases List.mem_append.1 hp with hp | hp
    · exact h1 part hp
    · split at hp
      · simp at hp
      · rw [List.mem_singleton.1 hp]; exact h2
  have key : ∀ k, (∀ part ∈ (clipTo l lo hi k).1, ∀ s ∈ part, P s) ∧ ∀ s ∈ (clipTo l lo hi k).2, P s := by
    intro k
    induction k with
    | zero => exact ⟨fun part h => by simp [clipTo] at h, fun s h => by simp [clipTo] at h⟩
    | succ k ih =>
      rw [clipTo_succ]
      unfold stepL
      cases hk : l[k]? with
      | none => exact ih
      | some p =>
        have mp := List.mem_of_getElem? hk
        dsimp only
        split
        · split
          · rename_i h
            exact ⟨ih.1, put _ _ ih.2 (hw p mp h)⟩
          · exact ih
        · cases hq : l[k - 1]? with
          | none => exact ih
          | some q =>
            have mq := List.mem_of_getElem? hq
            dsimp only
            have S : (∀ part ∈ (segS (clipTo l lo hi k) q p lo hi).1, ∀ s ∈ part, P s) ∧ ∀ s ∈ (segS (clipTo l lo hi k) q p lo hi).2, P s := by
              unfold segS
              split
              · rename_i ho
                have hh := hs q mq p mp (segT q p lo hi).1 (segT q p lo hi).2.1 (by rw [← ho])
                exact ⟨ih.1, put _ _ (put _ _ ih.2 hh.1) hh.2⟩
              · exact ih
            split
            · exact S
            · exact ⟨en _ S.1 S.2, fun s h => by simp [endS] at h⟩
  intro part hp s hs'
  exact en _ (key l.length).1 (key l.length).2 part hp s hs'
/-- a spot with coordinates in range -/
def SpIn (s : Spot) : Prop := inw s.x.q = true ∧ inw s.y.q = true
theorem right_in {f : Fr} (h : f.right = true) : inw f.q = true := by
  have := (Fr.right_iff h).1
  simp only [inw, Bool.and_eq_true, decide_eq_true_eq]
  exact this
theorem far_in {p : Pt} (h : p.far = false) : inw p.x = true ∧ inw p.y = true := by
  unfold Pt.far at h
  cases h1 : inw p.x <;> cases h2 : inw p.y <;> simp_all
theorem WG.frac {p q : Pt} {lo hi : Int} {a : Wn} (h : WG p q lo hi a) (hp : p.far = false) (hq : q.far = false) (hl : inw lo = true) (hh : inw hi = true) (he : a.en = false) : inw a.c = true ∧ (crossS p q a.c a.up).1.right = true := by
  have hw : inw a.c = true := by
    rcases (h.at_ he).1 with e | e <;> rw [e] <;> assumption
  refine ⟨hw, ?_⟩
  have hm := h.met he
  unfold crossS
  rw [hp, hq, hw]
  simp only [Bool.false_or, Bool.not_true, Bool.false_eq_true, if_false]
  cases hu : a.up with
  | true =>
    rw [hu] at hm
    simp only [if_true] at hm ⊢
    unfold crossC
    rw [hm]
    exact (cross_is (by rw [Pt.swap_far]; exact hp) (by rw [Pt.swap_far]; exact hq) hm).1
  | false =>
    rw [hu] at hm
    simp only [Bool.false_eq_true, if_false] at hm ⊢
    unfold crossC
    rw [hm]
    exact (cross_is hp hq hm).1
theorem spotW_in {p q e : Pt} {lo hi : Int} {a : Wn} (h : WG p q lo hi a) (hp : p.far = false) (hq : q.far = false) (he : e.far = false) (hl : inw lo = true) (hh : inw hi = true) : SpIn (spotW a p q e) := by
  unfold spotW
  cases hen : a.en with
  | true => rw [if_pos rfl]; exact far_in he
  | false =>
    obtain ⟨h1, h2⟩ := h.frac hp hq hl hh hen
    rw [if_neg (by decide)]
    split
    · exact ⟨right_in h2, h1⟩
    · exact ⟨h1, right_in h2⟩
theorem clip_in {l : List Pt} {lo hi : Int} (he : lineE l lo hi = 0) : ∀ part ∈ clipR l lo hi, ∀ s ∈ part, SpIn s := by
  obtain ⟨h, hl, hh, hf⟩ := lineE_zero.1 he
  unfold clipR
  rw [if_pos he]
  refine clipL_all (fun p hp _ => far_in (hf p hp)) fun p hp q hq a b hs => ?_
  obtain ⟨k0, k1, -, g0, g1, rfl, rfl⟩ := segT_ok hs
  exact ⟨spotW_in g0 (hf p hp) (hf q hq) (hf p hp) hl hh, spotW_in g1 (hf p hp) (hf q hq) (hf q hq) hl hh⟩

end Go.Proofs.Ytfdjdfobhkmlpaa
