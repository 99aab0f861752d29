import Derived.Test.YtfdjdfobhkmlpaaGreatRRb
namespace Go.Proofs.YtfdjdfobhkmlpaaGreat
set_option maxRecDepth 100000
open Go.RowKit B
def inU (h : Hf) (p : PtQ) : Bool := if h.up = true then inQ p.turn.x h.c h.ab else inQ p.x h.c h.ab
theorem half1_u (h : Hf) (a b : PtQ) : half1Q h.c h.up h.ab a b = (if inU h a = true then [a] else []) ++ (if inU h a ≠ inU h b then [crossU h a b] else []) := by
 obtain ⟨c, up, ab⟩ := h; unfold half1Q inU crossU; dsimp only
 cases up with
 | false => simp only [Bool.false_eq_true, if_false]
 | true =>
  simp only [if_true]; have ht : a.turn.turn = a := rfl
  split <;> split <;> simp_all
def sideQ (a b p : PtQ) : Rat := (b.x - a.x) * (p.y - a.y) - (b.y - a.y) * (p.x - a.x)
def sideIQ (a b p : PtQ) : Int := cmpR ((b.x - a.x) * (p.y - a.y)) ((b.y - a.y) * (p.x - a.x))
def withinQ (a b n : Rat) : Bool := (decide (cmpR a n <= 0) && decide (cmpR n b <= 0)) || (decide (cmpR b n <= 0) && decide (cmpR n a <= 0))
def touchQ (a b p : PtQ) : Bool := decide (sideIQ a b p = 0) && withinQ a.x b.x p.x && withinQ a.y b.y p.y
theorem sideIQ_zero (a b p : PtQ) : sideIQ a b p = 0 ↔ sideQ a b p = 0 := by unfold sideIQ sideQ; rw [cmpR_eq]; constructor <;> intro h <;> grind
theorem within_iff (a b n : Rat) : withinQ a b n = true ↔ (a <= n /\ n <= b) ∨ (b <= n /\ n <= a) := by
 unfold withinQ
 simp only [Bool.or_eq_true, Bool.and_eq_true, decide_eq_true_eq, cmpR_le]
theorem touch_iff (a b p : PtQ) : touchQ a b p = true ↔ ∃ r : Rat, 0 <= r /\ r <= 1 /\ p.x = a.x + r * (b.x - a.x) /\ p.y = a.y + r * (b.y - a.y) := by
 unfold touchQ; simp only [Bool.and_eq_true, decide_eq_true_eq, within_iff, sideIQ_zero]; unfold sideQ
 constructor
 ·rintro ⟨⟨h0, hx⟩, hy⟩
  have key : ∀ (ax bx px ay by' py : Rat), (bx - ax) * (py - ay) = (by' - ay) * (px - ax) -> ((ax <= px /\ px <= bx) ∨ (bx <= px /\ px <= ax)) -> bx - ax ≠ 0 -> ∃ r : Rat, 0 <= r /\ r <= 1 /\ px = ax + r * (bx - ax) /\ py = ay + r * (by' - ay) := by
   intro ax bx px ay by' py h0 hx hd
   have hr : px - ax = (px - ax) / (bx - ax) * (bx - ax) := by grind
   have hr' : py - ay = (px - ax) / (bx - ax) * (by' - ay) := by grind
   generalize (px - ax) / (bx - ax) = r at hr hr'; refine ⟨r, ?_, ?_, by grind, by grind⟩
   ·rw [<- Rat.not_lt]
    intro hn
    rcases hx with ⟨h1, h2⟩ | ⟨h1, h2⟩
    ·have := Rat.mul_pos (show 0 < -r by grind) (show 0 < bx - ax by grind)
     grind
    ·have := Rat.mul_pos (show 0 < -r by grind) (show 0 < ax - bx by grind)
     grind
   ·rw [<- Rat.not_lt]
    intro hn
    rcases hx with ⟨h1, h2⟩ | ⟨h1, h2⟩
    ·have := Rat.mul_pos (show 0 < r - 1 by grind) (show 0 < bx - ax by grind)
     grind
    ·have := Rat.mul_pos (show 0 < r - 1 by grind) (show 0 < ax - bx by grind)
     grind
  by_cases hd : b.x - a.x = 0
  ·by_cases he : b.y - a.y = 0
   ·exact ⟨0, by grind, by grind, by grind, by grind⟩
   ·obtain ⟨r, r0, r1, h1, h2⟩ := key a.y b.y p.y a.x b.x p.x (by grind) hy he
    exact ⟨r, r0, r1, h2, h1⟩
  ·exact key a.x b.x p.x a.y b.y p.y (by grind) hx hd
 ·rintro ⟨r, r0, r1, hx, hy⟩
  have key : ∀ (ax bx px : Rat), px = ax + r * (bx - ax) -> (ax <= px /\ px <= bx) ∨ (bx <= px /\ px <= ax) := by
   intro ax bx px h
   by_cases hs : ax <= bx
   ·left
    have a1 := Rat.mul_nonneg r0 (show 0 <= bx - ax by grind); have a2 := Rat.mul_nonneg (show 0 <= 1 - r by grind) (show 0 <= bx - ax by grind)
    constructor <;> grind
   ·right
    have a1 := Rat.mul_nonneg r0 (show 0 <= ax - bx by grind); have a2 := Rat.mul_nonneg (show 0 <= 1 - r by grind) (show 0 <= ax - bx by grind)
    constructor <;> grind
  refine ⟨⟨by rw [hx, hy]; grind, key _ _ _ hx⟩, key _ _ _ hy⟩
theorem cross_part {h : Hf} {a b : PtQ} (hne : inU h a ≠ inU h b) : ∃ s : Rat, 0 <= s /\ s <= 1 /\ (crossU h a b).x = a.x + s * (b.x - a.x) /\ (crossU h a b).y = a.y + s * (b.y - a.y) /\ (if h.up = true then a.y ≠ b.y else a.x ≠ b.x) := by
 have key : ∀ (a b : PtQ) (c : Int) (ab : Bool), inQ a.x c ab ≠ inQ b.x c ab -> ∃ s : Rat, 0 <= s /\ s <= 1 /\ (crossQ a b c).x = a.x + s * (b.x - a.x) /\ (crossQ a b c).y = a.y + s * (b.y - a.y) /\ a.x ≠ b.x := by
  intro a b c ab h; obtain ⟨hn, hb⟩ := inQ_ne h; have hd : b.x - a.x ≠ 0 := fun e => hn (by grind)
  unfold crossQ; dsimp only; have hs : (c : Rat) = a.x + ((c : Rat) - a.x) / (b.x - a.x) * (b.x - a.x) := by grind
  generalize ((c : Rat) - a.x) / (b.x - a.x) = s at *; refine ⟨s, ?_, ?_, hs, rfl, hn⟩
  ·rw [<- Rat.not_lt]
   intro hn
   rcases hb with ⟨h1, h2⟩ | ⟨h1, h2⟩
   ·have := Rat.mul_pos (show 0 < -s by grind) (show 0 < b.x - a.x by grind)
    grind
   ·have := Rat.mul_pos (show 0 < -s by grind) (show 0 < a.x - b.x by grind)
    grind
  ·rw [<- Rat.not_lt]
   intro hn
   rcases hb with ⟨h1, h2⟩ | ⟨h1, h2⟩
   ·have := Rat.mul_pos (show 0 < s - 1 by grind) (show 0 < b.x - a.x by grind)
    grind
   ·have := Rat.mul_pos (show 0 < s - 1 by grind) (show 0 < a.x - b.x by grind)
    grind
 obtain ⟨c, up, ab⟩ := h; unfold inU at hne; unfold crossU; dsimp only at *
 cases up with
 | false =>
  simp only [Bool.false_eq_true, if_false] at hne ⊢; exact key a b c ab hne
 | true =>
  simp only [if_true] at hne ⊢; obtain ⟨s, s0, s1, h1, h2, h3⟩ := key a.turn b.turn c ab hne; exact ⟨s, s0, s1, h2, h1, h3⟩
theorem half_mem {h : Hf} {l : List PtQ} {q : PtQ} (hq : q ∈ halfQ h.c h.up h.ab l) : inU h q = true /\ (q ∈ l ∨ ∃ a ∈ l, ∃ b ∈ l, ∃ s : Rat, 0 <= s /\ s <= 1 /\ q.x = a.x + s * (b.x - a.x) /\ q.y = a.y + s * (b.y - a.y)) := by
 obtain ⟨a, ha, b, hb, hx⟩ := mem_cyc hq; rw [half1_u] at hx; rcases List.mem_append.1 hx with hx | hx
 ·split at hx
  ·rename_i h1
   rw [List.mem_singleton.1 hx]; exact ⟨h1, .inl ha⟩
  ·simp at hx
 ·split at hx
  ·rename_i h1
   obtain ⟨s, s0, s1, e1, e2, -⟩ := cross_part h1; rw [List.mem_singleton.1 hx]; refine ⟨?_, .inr ⟨a, ha, b, hb, s, s0, s1, e1, e2⟩⟩; unfold inU crossU crossQ PtQ.turn inQ
   cases h.up <;> cases h.ab <;> simp <;> grind
  ·simp at hx
theorem half_lin {h : Hf} {l : List PtQ} {lo : Rat} {up : Bool} (hl : ∀ q ∈ l, lo <= (if up = true then q.y else q.x)) : ∀ q ∈ halfQ h.c h.up h.ab l, lo <= (if up = true then q.y else q.x) := by
 intro q hq
 rcases (half_mem hq).2 with h1 | ⟨a, ha, b, hb, s, s0, s1, e1, e2⟩
 ·exact hl q h1
 ·have k1 := hl a ha
  have k2 := hl b hb
  cases up <;> simp only [Bool.false_eq_true, if_false, if_true] at k1 k2 ⊢
  ·have a1 := Rat.mul_nonneg s0 (show 0 <= b.x - lo by grind)
   have a2 := Rat.mul_nonneg (show 0 <= 1 - s by grind) (show 0 <= a.x - lo by grind); grind
  ·have a1 := Rat.mul_nonneg s0 (show 0 <= b.y - lo by grind)
   have a2 := Rat.mul_nonneg (show 0 <= 1 - s by grind) (show 0 <= a.y - lo by grind); grind
theorem half_lin' {h : Hf} {l : List PtQ} {hi : Rat} {up : Bool} (hl : ∀ q ∈ l, (if up = true then q.y else q.x) <= hi) : ∀ q ∈ halfQ h.c h.up h.ab l, (if up = true then q.y else q.x) <= hi := by
 intro q hq
 rcases (half_mem hq).2 with h1 | ⟨a, ha, b, hb, s, s0, s1, e1, e2⟩
 ·exact hl q h1
 ·have k1 := hl a ha
  have k2 := hl b hb
  cases up <;> simp only [Bool.false_eq_true, if_false, if_true] at k1 k2 ⊢
  ·have a1 := Rat.mul_nonneg s0 (show 0 <= hi - b.x by grind)
   have a2 := Rat.mul_nonneg (show 0 <= 1 - s by grind) (show 0 <= hi - a.x by grind); grind
  ·have a1 := Rat.mul_nonneg s0 (show 0 <= hi - b.y by grind)
   have a2 := Rat.mul_nonneg (show 0 <= 1 - s by grind) (show 0 <= hi - a.y by grind); grind
theorem cring_in {l : List Pt} {lo hi : Int} : ∀ q ∈ clip25Q l lo hi, (lo : Rat) <= q.x /\ q.x <= (hi : Rat) /\ (lo : Rat) <= q.y /\ q.y <= (hi : Rat) := by
 intro q hq; unfold clip25Q at hq; generalize l.map Pt.pq = l0 at hq; have c1 : ∀ q ∈ halfQ lo false true l0, (lo : Rat) <= q.x := fun q hq => by simpa [inU, inQ] using (half_mem (h := ⟨lo, false, true⟩) hq).1
 generalize halfQ lo false true l0 = l1 at *
 have c2 : ∀ q ∈ halfQ hi false false l1, (lo : Rat) <= q.x /\ q.x <= (hi : Rat) := fun q hq => ⟨by simpa using half_lin (h := ⟨hi, false, false⟩) (up := false) (by simpa using c1) q hq, by simpa [inU, inQ] using (half_mem (h := ⟨hi, false, false⟩) hq).1⟩
 generalize halfQ hi false false l1 = l2 at *
 have c3 : ∀ q ∈ halfQ lo true true l2, (lo : Rat) <= q.x /\ q.x <= (hi : Rat) /\ (lo : Rat) <= q.y := fun q hq => ⟨by simpa using half_lin (h := ⟨lo, true, true⟩) (up := false) (by simpa using fun q hq => (c2 q hq).1) q hq, by simpa using half_lin' (h := ⟨lo, true, true⟩) (up := false) (by simpa using fun q hq => (c2 q hq).2) q hq, of_decide_eq_true (half_mem (h := ⟨lo, true, true⟩) hq).1⟩
 generalize halfQ lo true true l2 = l3 at *; refine ⟨by simpa using half_lin (h := ⟨hi, true, false⟩) (up := false) (by simpa using fun q hq => (c3 q hq).1) q hq, by simpa using half_lin' (h := ⟨hi, true, false⟩) (up := false) (by simpa using fun q hq => (c3 q hq).2.1) q hq, by simpa using half_lin (h := ⟨hi, true, false⟩) (up := true) (by simpa using fun q hq => (c3 q hq).2.2) q hq, of_decide_eq_true (half_mem (h := ⟨hi, true, false⟩) hq).1⟩
end Go.Proofs.YtfdjdfobhkmlpaaGreat
