/-
  Rings clipped at a window, in plain Lean: the values of the clipped ring.
-/
import Derived.Test.YtjcgkhcbdbbdkaaChecked
import Derived.Test.YtjcgkhcbdbbdkaaRR4
import Derived.Test.YtjcgkhcbdbbdkaaRngP
namespace Go.Proofs.Ytjcgkhcbdbbdkaa
open Go.RowKit B

theorem fcmp_val {f : Fr} (h : f.right = true) (n : Int) : (0 ≤ fcmpS f n ↔ (n : Rat) ≤ f.val) ∧ (fcmpS f n ≤ 0 ↔ f.val ≤ (n : Rat)) := by
  obtain ⟨-, h1, -, h3, -⟩ := Fr.right_iff h
  unfold fcmpS
  rw [if_pos h]
  obtain ⟨q, r, d⟩ := f
  dsimp only at *
  have hd : (0 : Rat) < ((d : Int) : Rat) := cast_pos (by omega)
  have hr0 : (0 : Rat) ≤ ((r : Int) : Rat) := by exact_mod_cast (by omega : (0 : Int) ≤ r)
  have hr1 : ((r : Int) : Rat) < ((d : Int) : Rat) := by exact_mod_cast (by omega : (r : Int) < d)
  have hv0 : (0 : Rat) ≤ ((r : Int) : Rat) / ((d : Int) : Rat) := by
    rw [← Rat.not_lt]
    intro h
    rw [Rat.div_lt_iff hd] at h
    grind
  have hv1 : ((r : Int) : Rat) / ((d : Int) : Rat) < 1 := by rw [Rat.div_lt_iff hd]; grind
  have hz : (((r : Int) : Rat) / ((d : Int) : Rat) = 0) ↔ r = 0 := by
    constructor
    · intro e
      have : ((r : Int) : Rat) = 0 := by grind
      have : (r : Int) = 0 := by exact_mod_cast this
      omega
    · rintro rfl
      have : (((0 : Nat) : Int) : Rat) = 0 := rfl
      rw [this]
      grind
  have ev : (⟨q, r, d⟩ : Fr).val = (q : Rat) + ((r : Int) : Rat) / ((d : Int) : Rat) := by unfold Fr.val; push_cast; rfl
  rw [ev]
  generalize ((r : Int) : Rat) / ((d : Int) : Rat) = e at *
  simp only [orL]
  rcases Int.lt_trichotomy q n with hq | hq | hq
  · have c1 : cmpI' q n = -1 := by unfold cmpI'; rw [if_pos hq]
    have hqn : (q : Rat) + 1 ≤ n := by exact_mod_cast (by omega : q + 1 ≤ n)
    rw [c1, if_pos (by decide)]
    constructor
    · constructor
      · intro h; omega
      · intro h; grind
    · constructor
      · intro _; grind
      · intro _; omega
  · subst hq
    have c1 : cmpI' q q = 0 := by unfold cmpI'; rw [if_neg (by omega), if_neg (by omega)]
    rw [c1, if_neg (by decide)]
    by_cases h0 : r = 0
    · have e0 := hz.2 h0
      have c2 : cmpI' (r : Int) 0 = 0 := by rw [h0]; rfl
      rw [c2, if_neg (by decide)]
      constructor
      · constructor
        · intro _; grind
        · intro _; omega
      · constructor
        · intro _; grind
        · intro _; omega
    · have e0 : e ≠ 0 := fun h => h0 (hz.1 h)
      have c2 : cmpI' (r : Int) 0 = 1 := by unfold cmpI'; rw [if_neg (by omega), if_pos (by omega)]
      rw [c2, if_pos (by decide)]
      constructor
      · constructor
        · intro _; grind
        · intro _; omega
      · constructor
        · intro h; omega
        · intro h; grind
  · have c1 : cmpI' q n = 1 := by unfold cmpI'; rw [if_neg (by omega), if_pos (by omega)]
    have hqn : (n : Rat) + 1 ≤ q := by exact_mod_cast (by omega : n + 1 ≤ q)
    rw [c1, if_pos (by decide)]
    constructor
    · constructor
      · intro _; grind
      · intro _; omega
    · constructor
      · intro h; omega
      · intro h; grind
theorem has_val {h : Hf} {s : Spot} (hs : s.rt) : h.has s = if h.up = true then inQ s.pq.turn.x h.c h.ab else inQ s.pq.x h.c h.ab := by
  obtain ⟨x1, x2⟩ := fcmp_val hs.1 h.c
  obtain ⟨y1, y2⟩ := fcmp_val hs.2 h.c
  unfold Hf.has inQ Spot.pq PtQ.turn
  dsimp only
  cases h.up <;> cases h.ab <;> simp only [Bool.false_eq_true, if_true, if_false, x1, x2, y1, y2]
theorem inQ_ne {x y : Rat} {c : Int} {ab : Bool} (h : inQ x c ab ≠ inQ y c ab) : x ≠ y ∧ ((x ≤ c ∧ (c : Rat) ≤ y) ∨ (y ≤ c ∧ (c : Rat) ≤ x)) := by
  refine ⟨fun e => h (by rw [e]), ?_⟩
  unfold inQ at h
  cases ab with
  | true =>
    simp only [if_true] at h
    by_cases h1 : (c : Rat) ≤ x <;> by_cases h2 : (c : Rat) ≤ y <;> simp [h1, h2] at h <;> grind
  | false =>
    simp only [Bool.false_eq_true, if_false] at h
    by_cases h1 : x ≤ (c : Rat) <;> by_cases h2 : y ≤ (c : Rat) <;> simp [h1, h2] at h <;> grind
/-- a clipped edge is crossed where the whole one is -/
theorem cross_line {p q : Pt} {c : Int} {ab : Bool} {t u : Rat} (hp : p.far = false) (hq : q.far = false) (t0 : 0 ≤ t) (t1 : t ≤ 1) (u0 : 0 ≤ u) (u1 : u ≤ 1) (h : inQ (onQ p q t).x c ab ≠ inQ (onQ p q u).x c ab) :
    noneB p q c = false ∧ (crossF p q c).right = true ∧ crossQ (onQ p q t) (onQ p q u) c = ⟨(c : Rat), (crossF p q c).val⟩ := by
  obtain ⟨hne, hb⟩ := inQ_ne h
  unfold onQ at hne hb
  dsimp only at hne hb
  have hd : ((q.x - p.x : Int) : Rat) ≠ 0 := fun e => hne (by rw [e]; grind)
  have hbt : ((p.x : Rat) ≤ c ∧ (c : Rat) ≤ q.x) ∨ ((q.x : Rat) ≤ c ∧ (c : Rat) ≤ p.x) := by
    push_cast at hb hd
    by_cases hs : (p.x : Rat) ≤ q.x
    · left
      have a1 : 0 ≤ ((q.x : Rat) - p.x) * t := Rat.mul_nonneg (by grind) t0
      have a2 : 0 ≤ ((q.x : Rat) - p.x) * u := Rat.mul_nonneg (by grind) u0
      have a3 : 0 ≤ ((q.x : Rat) - p.x) * (1 - t) := Rat.mul_nonneg (by grind) (by grind)
      have a4 : 0 ≤ ((q.x : Rat) - p.x) * (1 - u) := Rat.mul_nonneg (by grind) (by grind)
      constructor <;> grind
    · right
      have a1 : 0 ≤ ((p.x : Rat) - q.x) * t := Rat.mul_nonneg (by grind) t0
      have a2 : 0 ≤ ((p.x : Rat) - q.x) * u := Rat.mul_nonneg (by grind) u0
      have a3 : 0 ≤ ((p.x : Rat) - q.x) * (1 - t) := Rat.mul_nonneg (by grind) (by grind)
      have a4 : 0 ≤ ((p.x : Rat) - q.x) * (1 - u) := Rat.mul_nonneg (by grind) (by grind)
      constructor <;> grind
  have hbi : (p.x ≤ c ∧ c ≤ q.x) ∨ (q.x ≤ c ∧ c ≤ p.x) := by
    rcases hbt with ⟨h1, h2⟩ | ⟨h1, h2⟩
    · exact .inl ⟨by exact_mod_cast h1, by exact_mod_cast h2⟩
    · exact .inr ⟨by exact_mod_cast h1, by exact_mod_cast h2⟩
  have hx : p.x ≠ q.x := by
    intro e
    apply hd
    rw [e]
    simp
  have hn : noneB p q c = false := by
    unfold noneB
    simp only [Bool.or_eq_false_iff, decide_eq_false_iff_not]
    omega
  refine ⟨hn, (cross_is hp hq hn).1, ?_⟩
  rw [crossF_val hp hq hn]
  unfold crossQ onQ
  rw [PtQ.mk.injEq]
  refine ⟨rfl, ?_⟩
  dsimp only
  have hut : u - t ≠ 0 := fun e => hne (by have : u = t := by grind
                                           rw [this])
  push_cast at hd ⊢
  grind
def crossU (h : Hf) (a b : PtQ) : PtQ := if h.up = true then (crossQ a.turn b.turn h.c).turn else crossQ a b h.c
/-- from one node to the next one -/
structure NI (n m : Node) : Prop where
  rt : n.s.rt
  flat : n.pl = true → n.s.pq.x = m.s.pq.x ∨ n.s.pq.y = m.s.pq.y
  on : n.pl = false → n.p.far = false ∧ n.q.far = false ∧ ∃ t u : Rat, 0 ≤ t ∧ t ≤ 1 ∧ 0 ≤ u ∧ u ≤ 1 ∧ n.s.pq = onQ n.p n.q t ∧ m.s.pq = onQ n.p n.q u
theorem onQ_swap (p q : Pt) (t : Rat) : onQ p.swap q.swap t = (onQ p q t).turn := rfl
theorem crossQ_flat {a b : PtQ} {c : Int} (h : a.y = b.y) : crossQ a b c = ⟨(c : Rat), a.y⟩ := by
  unfold crossQ
  rw [PtQ.mk.injEq]
  exact ⟨rfl, by rw [h]; grind⟩
theorem cross_node {h : Hf} {n m : Node} (hn : NI n m) (hc : inw h.c = true) (hm : m.s.rt) (hne : h.has n.s ≠ h.has m.s) : (h.cross n).rt ∧ (h.cross n).pq = crossU h n.s.pq m.s.pq := by
  rw [has_val hn.rt, has_val hm] at hne
  obtain ⟨c, up, ab⟩ := h
  unfold Hf.cross crossU
  dsimp only at *
  cases up with
  | false =>
    simp only [Bool.false_eq_true, if_false] at hne ⊢
    cases hp : n.pl with
    | true =>
      rw [if_pos rfl]
      have hy : n.s.pq.y = m.s.pq.y := (hn.flat hp).resolve_left (inQ_ne hne).1
      exact ⟨⟨whole_right hc, hn.rt.2⟩, by rw [crossQ_flat hy]; unfold Spot.pq; dsimp only; rw [whole_val]⟩
    | false =>
      rw [if_neg (by decide)]
      obtain ⟨fp, fq, t, u, t0, t1, u0, u1, e1, e2⟩ := hn.on hp
      rw [e1, e2] at hne ⊢
      obtain ⟨k1, k2, k3⟩ := cross_line fp fq t0 t1 u0 u1 hne
      have ec : (crossS n.p n.q c false).1 = crossF n.p n.q c := by
        unfold crossS crossC
        rw [fp, fq, hc, k1]
        rfl
      rw [ec, k3]
      exact ⟨⟨whole_right hc, k2⟩, by unfold Spot.pq; dsimp only; rw [whole_val]⟩
  | true =>
    simp only [if_true] at hne ⊢
    cases hp : n.pl with
    | true =>
      rw [if_pos rfl]
      have hx : n.s.pq.turn.y = m.s.pq.turn.y := (hn.flat hp).resolve_right (inQ_ne hne).1
      exact ⟨⟨hn.rt.1, whole_right hc⟩, by rw [crossQ_flat hx]; unfold Spot.pq PtQ.turn; dsimp only; rw [whole_val]⟩
    | false =>
      rw [if_neg (by decide)]
      obtain ⟨fp, fq, t, u, t0, t1, u0, u1, e1, e2⟩ := hn.on hp
      rw [e1, e2, ← onQ_swap, ← onQ_swap] at hne
      rw [e1, e2, ← onQ_swap, ← onQ_swap]
      obtain ⟨k1, k2, k3⟩ := cross_line (by rw [Pt.swap_far]; exact fp) (by rw [Pt.swap_far]; exact fq) t0 t1 u0 u1 hne
      have ec : (crossS n.p n.q c true).1 = crossF n.p.swap n.q.swap c := by
        unfold crossS crossC
        rw [fp, fq, hc, k1]
        rfl
      rw [ec, k3]
      exact ⟨⟨k2, whole_right hc⟩, by unfold Spot.pq PtQ.turn; dsimp only; rw [whole_val]⟩
end Go.Proofs.Ytjcgkhcbdbbdkaa
