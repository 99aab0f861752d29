/-
  Lines clipped at a window, in plain Lean: the values of a segment's ends.
-/
import Derived.Test.YtjcgkhcbdbbdkaaChecked
import Derived.Test.YtjcgkhcbdbbdkaaLLaw
import Derived.Test.YtjcgkhcbdbbdkaaRL2
namespace Go.Proofs.Ytjcgkhcbdbbdkaa
open Go.RowKit B

structure PtQ where
  x : Rat
  y : Rat
def Spot.pq (s : Spot) : PtQ := ⟨s.x.val, s.y.val⟩
def Spot.rt (s : Spot) : Prop := s.x.right = true ∧ s.y.right = true
def Pt.pq (p : Pt) : PtQ := ⟨(p.x : Rat), (p.y : Rat)⟩
def onQ (p q : Pt) (t : Rat) : PtQ := ⟨(p.x : Rat) + ((q.x - p.x : Int) : Rat) * t, (p.y : Rat) + ((q.y - p.y : Int) : Rat) * t⟩
def segQ (p q : Pt) (lo hi : Int) : PtQ × PtQ × Bool :=
  if segBad p q lo hi = true then (⟨0, 0⟩, ⟨0, 0⟩, false)
  else if (slabQ 0 1 p.x q.x lo hi).2.2 = false then (⟨0, 0⟩, ⟨0, 0⟩, false)
  else if (slabQ (slabQ 0 1 p.x q.x lo hi).1 (slabQ 0 1 p.x q.x lo hi).2.1 p.y q.y lo hi).2.2 = false then (⟨0, 0⟩, ⟨0, 0⟩, false)
  else (onQ p q (slabQ (slabQ 0 1 p.x q.x lo hi).1 (slabQ 0 1 p.x q.x lo hi).2.1 p.y q.y lo hi).1, onQ p q (slabQ (slabQ 0 1 p.x q.x lo hi).1 (slabQ 0 1 p.x q.x lo hi).2.1 p.y q.y lo hi).2.1, true)

def Wn.val (a : Wn) : Rat := (a.n : Rat) / (a.d : Rat)
theorem after_val {a b : Wn} (ha : 0 < a.d) (hb : 0 < b.d) : a.after b = decide (b.val < a.val) := by
  rw [Bool.eq_iff_iff, after_iff, decide_eq_true_eq]
  unfold Wn.val
  rw [div_lt_div_iff' (cast_pos hb) (cast_pos ha)]
  have : ((b.n : Rat) * (a.d : Rat) < (a.n : Rat) * (b.d : Rat)) ↔ b.n * a.d < a.n * b.d := by exact_mod_cast Iff.rfl
  rw [this]
  omega
theorem slabA_val {s t lo hi : Int} {up : Bool} (h : s ≠ t) : (slabA s t lo hi up).val = slabX s t lo hi ∧ (slabB s t lo hi up).val = slabY s t lo hi := by
  unfold slabA slabB slabX slabY Wn.val
  dsimp only
  have h0 : ((t - s : Int) : Rat) ≠ 0 := by exact_mod_cast (show t - s ≠ 0 by omega)
  by_cases hc : t < s
  · simp only [if_pos hc, show max (t - s) (s - t) = -(t - s) by omega]
    push_cast at h0 ⊢
    constructor <;> grind
  · simp only [if_neg hc, show max (t - s) (s - t) = t - s by omega]
    push_cast at h0 ⊢
    constructor <;> grind
theorem slab_val {i0 i1 j0 j1 : Wn} {s t lo hi : Int} {up ok : Bool} (h0 : 0 < i0.d) (h1 : 0 < i1.d) (h : slabS i0 i1 s t lo hi up = (j0, j1, ok)) :
    slabQ i0.val i1.val s t lo hi = (j0.val, j1.val, ok) ∧ 0 < j0.d ∧ 0 < j1.d ∧ (j0 = i0 ∨ j0.en = false) ∧ (j1 = i1 ∨ j1.en = false) := by
  unfold slabS at h
  unfold slabQ
  split at h
  · rename_i he
    rw [if_pos he]
    rw [Prod.mk.injEq, Prod.mk.injEq] at h
    obtain ⟨rfl, rfl, rfl⟩ := h
    exact ⟨rfl, h0, h1, .inl rfl, .inl rfl⟩
  · rename_i hne
    rw [if_neg hne]
    rw [Prod.mk.injEq, Prod.mk.injEq] at h
    obtain ⟨e0, e1, e2⟩ := h
    have hA : 0 < (slabA s t lo hi up).d := by show 0 < max _ _; omega
    have hB : 0 < (slabB s t lo hi up).d := by show 0 < max _ _; omega
    obtain ⟨vA, vB⟩ := slabA_val (lo := lo) (hi := hi) (up := up) hne
    have enA : (slabA s t lo hi up).en = false := rfl
    have enB : (slabB s t lo hi up).en = false := rfl
    generalize slabA s t lo hi up = A at *
    generalize slabB s t lo hi up = B at *
    rw [← vA, ← vB]
    have k0 : j0.val = (if i0.val < A.val then A.val else i0.val) ∧ 0 < j0.d ∧ (j0 = i0 ∨ j0.en = false) := by
      rw [← e0]
      unfold slab0
      rw [after_val hA h0]
      by_cases hc : i0.val < A.val
      · rw [if_pos (decide_eq_true hc), if_pos hc]; exact ⟨rfl, hA, .inr enA⟩
      · rw [if_neg (by simpa using hc), if_neg hc]; exact ⟨rfl, h0, .inl rfl⟩
    have k1 : j1.val = (if B.val < i1.val then B.val else i1.val) ∧ 0 < j1.d ∧ (j1 = i1 ∨ j1.en = false) := by
      rw [← e1]
      unfold slab1
      rw [after_val h1 hB]
      by_cases hc : B.val < i1.val
      · rw [if_pos (decide_eq_true hc), if_pos hc]; exact ⟨rfl, hB, .inr enB⟩
      · rw [if_neg (by simpa using hc), if_neg hc]; exact ⟨rfl, h1, .inl rfl⟩
    rw [← k0.1, ← k1.1, ← e2, e0, e1, after_val k0.2.1 k1.2.1]
    refine ⟨?_, k0.2.1, k1.2.1, k0.2.2, k1.2.2⟩
    rw [← decide_not, show decide (j0.val ≤ j1.val) = decide (¬ j1.val < j0.val) from decide_eq_decide.2 Rat.not_lt.symm]
theorem crossF_val {p q : Pt} {c : Int} (hp : p.far = false) (hq : q.far = false) (hn : noneB p q c = false) :
    (crossF p q c).val = (p.y : Rat) + ((c - p.x : Int) : Rat) * ((q.y - p.y : Int) : Rat) / ((q.x - p.x : Int) : Rat) := by
  obtain ⟨hr, hv⟩ := cross_is hp hq hn
  obtain ⟨hx, -⟩ := noneB_false hn
  generalize crossF p q c = f at *
  obtain ⟨-, hd, -⟩ := Fr.right_iff hr
  have hd' : (0 : Rat) < ((f.d : Int) : Rat) := cast_pos (by omega)
  have hq0 : ((q.x - p.x : Int) : Rat) ≠ 0 := by exact_mod_cast (show q.x - p.x ≠ 0 by omega)
  have hv' : (((f.q * f.d + f.r) * (crossD p q : Int) : Int) : Rat) = (((p.y * (crossD p q : Int) + crossX p q c) * f.d : Int) : Rat) := by exact_mod_cast hv
  unfold Fr.val
  unfold crossX at hv'
  by_cases hc : q.x - p.x < 0
  · have e : ((crossD p q : Nat) : Int) = -(q.x - p.x) := by unfold crossD; omega
    rw [if_pos hc, e] at hv'
    push_cast at hv' hd' hq0 ⊢
    grind
  · have e : ((crossD p q : Nat) : Int) = q.x - p.x := by unfold crossD; omega
    rw [if_neg hc, e] at hv'
    push_cast at hv' hd' hq0 ⊢
    grind
theorem whole_right {n : Int} (h : inw n = true) : (⟨n, 0, 1⟩ : Fr).right = true := by
  simp only [inw, Bool.and_eq_true, decide_eq_true_eq] at h
  simp [Fr.right, inw, h]
theorem whole_val (n : Int) : (⟨n, 0, 1⟩ : Fr).val = (n : Rat) := by
  unfold Fr.val
  dsimp only
  have : (((0 : Nat) : Rat)) = 0 := rfl
  rw [this]
  grind
theorem spotW_val {a : Wn} {p q e : Pt} {lo hi : Int} (h : WG p q lo hi a) (hp : p.far = false) (hq : q.far = false) (he : e.far = false) (hl : inw lo = true) (hh : inw hi = true) (hen : a.en = true → onQ p q a.val = e.pq) :
    (spotW a p q e).pq = onQ p q a.val ∧ (spotW a p q e).rt := by
  unfold spotW
  cases hc : a.en with
  | true =>
    rw [if_pos rfl, hen hc]
    have := far_in he
    exact ⟨by unfold Spot.pq Pt.pq; dsimp only; rw [whole_val, whole_val], whole_right this.1, whole_right this.2⟩
  | false =>
    rw [if_neg (by decide)]
    have hr := h.frac hp hq hl hh hc
    have hm := h.met hc
    obtain ⟨hcw, hne, hd, hn⟩ := h.at_ hc
    have hv : a.val = ((a.c - co a.up p : Int) : Rat) / ((co a.up q - co a.up p : Int) : Rat) := by
      unfold Wn.val
      have h0 : ((co a.up q - co a.up p : Int) : Rat) ≠ 0 := by exact_mod_cast (show co a.up q - co a.up p ≠ 0 by omega)
      rw [hd, hn]
      by_cases hlt : co a.up q < co a.up p
      · rw [if_pos hlt, show max (co a.up q - co a.up p) (co a.up p - co a.up q) = -(co a.up q - co a.up p) by omega]
        push_cast at h0 ⊢
        grind
      · rw [if_neg hlt, show max (co a.up q - co a.up p) (co a.up p - co a.up q) = co a.up q - co a.up p by omega]
        push_cast at h0 ⊢
        grind
    have hcs : (crossS p q a.c a.up).1 = if a.up = true then crossF p.swap q.swap a.c else crossF p q a.c := by
      unfold crossS crossC
      rw [hp, hq, hr.1]
      simp only [Bool.or_false, Bool.not_true, Bool.false_eq_true, if_false]
      cases hu : a.up with
      | true => rw [hu] at hm; simp only [if_true] at hm ⊢; rw [hm]; rfl
      | false => rw [hu] at hm; simp only [Bool.false_eq_true, if_false] at hm ⊢; rw [hm]; rfl
    cases hu : a.up with
    | true =>
      rw [hu] at hcs hv hne hm hr
      simp only [if_true] at hcs hm ⊢
      refine ⟨?_, hr.2, whole_right hr.1⟩
      have hx := crossF_val (by rw [Pt.swap_far]; exact hp) (by rw [Pt.swap_far]; exact hq) hm
      unfold Spot.pq onQ
      dsimp only
      rw [hcs, hx, whole_val, hv]
      unfold co Pt.swap at *
      simp only [if_true] at *
      have h0 : ((q.y - p.y : Int) : Rat) ≠ 0 := by exact_mod_cast (show q.y - p.y ≠ 0 by omega)
      push_cast at h0 ⊢
      rw [PtQ.mk.injEq]
      constructor <;> grind
    | false =>
      rw [hu] at hcs hv hne hm hr
      simp only [Bool.false_eq_true, if_false] at hcs hm ⊢
      refine ⟨?_, whole_right hr.1, hr.2⟩
      have hx := crossF_val hp hq hm
      unfold Spot.pq onQ
      dsimp only
      rw [hcs, hx, whole_val, hv]
      unfold co at *
      simp only [Bool.false_eq_true, if_false] at *
      have h0 : ((q.x - p.x : Int) : Rat) ≠ 0 := by exact_mod_cast (show q.x - p.x ≠ 0 by omega)
      push_cast at h0 ⊢
      rw [PtQ.mk.injEq]
      constructor <;> grind
theorem onQ_0 (p q : Pt) : onQ p q 0 = p.pq := by
  unfold onQ Pt.pq
  rw [PtQ.mk.injEq]
  constructor <;> grind
theorem onQ_1 (p q : Pt) : onQ p q 1 = q.pq := by
  unfold onQ Pt.pq
  rw [PtQ.mk.injEq]
  push_cast
  constructor <;> grind
/-- P24.1 -/
theorem seg_law {p q : Pt} {lo hi : Int} {a b : Spot} {ok : Bool} (h : segT p q lo hi = (a, b, ok)) :
    (segQ p q lo hi).2.2 = ok ∧ (ok = true → (segQ p q lo hi).1 = a.pq ∧ (segQ p q lo hi).2.1 = b.pq ∧ a.rt ∧ b.rt) ∧ (ok = false → a = zeroSpot ∧ b = zeroSpot) := by
  unfold segT at h
  unfold segQ
  by_cases hb : segBad p q lo hi = true
  · rw [if_pos hb] at h ⊢
    rw [Prod.mk.injEq, Prod.mk.injEq] at h
    obtain ⟨rfl, rfl, rfl⟩ := h
    exact ⟨rfl, fun h => (by cases h), fun _ => ⟨rfl, rfl⟩⟩
  · rw [if_neg hb] at h ⊢
    obtain ⟨hle, hp, hq, hl, hh⟩ := segBad_false.1 (by simpa using hb)
    obtain ⟨j0, j1, ok1, hs1⟩ : ∃ j0 j1 ok, slabS W0 W1 p.x q.x lo hi false = (j0, j1, ok) := ⟨_, _, _, rfl⟩
    obtain ⟨k0, k1, ok2, hs2⟩ : ∃ j0' j1' ok, slabS j0 j1 p.y q.y lo hi true = (j0', j1', ok) := ⟨_, _, _, rfl⟩
    have z0 : W0.val = 0 := by
      show ((0 : Int) : Rat) / ((1 : Int) : Rat) = 0
      have : ((0 : Int) : Rat) = 0 := rfl
      rw [this]
      grind
    have z1 : W1.val = 1 := by
      show ((1 : Int) : Rat) / ((1 : Int) : Rat) = 1
      have : ((1 : Int) : Rat) = 1 := rfl
      rw [this]
      grind
    obtain ⟨v1, d0, d1, n0, n1⟩ := slab_val (by decide) (by decide) hs1
    obtain ⟨v2, -, -, n2, n3⟩ := slab_val d0 d1 hs2
    rw [z0, z1] at v1
    rw [hs1] at h
    dsimp only at h
    rw [hs2] at h
    dsimp only at h
    rw [v1]
    dsimp only
    rw [v2]
    dsimp only
    cases ok1 with
    | false =>
      rw [if_pos rfl] at h ⊢
      rw [Prod.mk.injEq, Prod.mk.injEq] at h
      obtain ⟨rfl, rfl, rfl⟩ := h
      exact ⟨rfl, fun h => (by cases h), fun _ => ⟨rfl, rfl⟩⟩
    | true =>
      rw [if_neg (by decide)] at h ⊢
      cases ok2 with
      | false =>
        rw [if_pos rfl] at h ⊢
        rw [Prod.mk.injEq, Prod.mk.injEq] at h
        obtain ⟨rfl, rfl, rfl⟩ := h
        exact ⟨rfl, fun h => (by cases h), fun _ => ⟨rfl, rfl⟩⟩
      | true =>
        rw [if_neg (by decide)] at h ⊢
        rw [Prod.mk.injEq, Prod.mk.injEq] at h
        obtain ⟨rfl, rfl, rfl⟩ := h
        have g1 := slab_good (up := false) (WG0 p q lo hi).1 (WG0 p q lo hi).2 hs1
        have g2 := slab_good (up := true) g1.1 g1.2 hs2
        have e0 : k0.en = true → onQ p q k0.val = p.pq := by
          intro he
          have : k0 = W0 := by
            rcases n2 with e | e
            · rcases n0 with f | f
              · rw [e, f]
              · rw [e, f] at he; cases he
            · rw [e] at he; cases he
          rw [this, z0, onQ_0]
        have e1 : k1.en = true → onQ p q k1.val = q.pq := by
          intro he
          have : k1 = W1 := by
            rcases n3 with e | e
            · rcases n1 with f | f
              · rw [e, f]
              · rw [e, f] at he; cases he
            · rw [e] at he; cases he
          rw [this, z1, onQ_1]
        have s0 := spotW_val g2.1 hp hq hp hl hh e0
        have s1 := spotW_val g2.2 hp hq hq hl hh e1
        exact ⟨rfl, fun _ => ⟨s0.1.symm, s1.1.symm, s0.2, s1.2⟩, fun h => (by cases h)⟩
end Go.Proofs.Ytjcgkhcbdbbdkaa
