import Derived.Test.YteeeeddeacepmaaGreatDoorRRb
namespace Go.Proofs.YteeeeddeacepmaaGreatDoor
set_option maxRecDepth 100000
open Go.RowKit B
def psum (F : PtQ -> PtQ -> Int) : PtQ -> List PtQ -> PtQ -> Int
 | a, [], b => F a b
 | a, x :: l, b => F a x + psum F x l b
theorem psum_app (F : PtQ -> PtQ -> Int) : ∀ (l : List PtQ) (a x : PtQ) (m : List PtQ) (b : PtQ), psum F a (l ++ x :: m) b = psum F a l x + psum F x m b
 | [], _, _, _, _ => rfl
 | y :: l, a, x, m, b => by
  show F a y + psum F y (l ++ x :: m) b = F a y + psum F y l x + psum F x m b; rw [psum_app F l, Int.add_assoc]
def csum (F : PtQ -> PtQ -> Int) (l : List PtQ) : Int := (cycTo (fun a b => [F a b]) l l.length).sum
theorem emi_sum (F : PtQ -> PtQ -> Int) : ∀ (l : List PtQ) (a b : PtQ), (emi (fun a b => [F a b]) a l b).sum = psum F a l b
 | [], a, b => by show F a b + 0 = F a b; omega
 | x :: l, a, b => by
  show ([F a x] ++ emi (fun a b => [F a b]) x l b).sum = F a x + psum F x l b; rw [List.sum_append, emi_sum F l]; show F a x + 0 + _ = _; omega
theorem csum_cons (F : PtQ -> PtQ -> Int) (a : PtQ) (l : List PtQ) : csum F (a :: l) = psum F a l a := by
 unfold csum; rw [cyc_emi, emi_sum]
theorem csum_rot (F : PtQ -> PtQ -> Int) {a b : List PtQ} (h : IsRot a b) : csum F a = csum F b := by
 obtain ⟨u, v, rfl, rfl⟩ := h
 cases u with
 | nil => simp
 | cons x u =>
  cases v with
  | nil => simp
  | cons y v =>
   rw [List.cons_append, List.cons_append, csum_cons, csum_cons, psum_app, psum_app, Int.add_comm]
def inU (h : Hf) (p : PtQ) : Bool := if h.up = true then inQ p.turn.x h.c h.ab else inQ p.x h.c h.ab
def OutU (h : Hf) (p : PtQ) : Prop := if h.up = true then (if h.ab = true then p.y <= (h.c : Rat) else (h.c : Rat) <= p.y) else (if h.ab = true then p.x <= (h.c : Rat) else (h.c : Rat) <= p.x)
def DeepU (h : Hf) (p : PtQ) : Prop := if h.up = true then (if h.ab = true then (h.c : Rat) < p.y else p.y < (h.c : Rat)) else (if h.ab = true then (h.c : Rat) < p.x else p.x < (h.c : Rat))
theorem outU_of {h : Hf} {p : PtQ} (hp : inU h p = false) : OutU h p := by
 obtain ⟨c, up, ab⟩ := h; unfold inU inQ PtQ.turn at hp; unfold OutU; dsimp only at *
 cases up <;> cases ab <;> simp at hp ⊢ <;> grind
theorem outU_cross (h : Hf) (a b : PtQ) : OutU h (crossU h a b) := by
 obtain ⟨c, up, ab⟩ := h; unfold OutU crossU crossQ PtQ.turn; dsimp only
 cases up <;> cases ab <;> simp <;> grind
theorem half1_u (h : Hf) (a b : PtQ) : half1Q h.c h.up h.ab a b = (if inU h a = true then [a] else []) ++ (if inU h a ≠ inU h b then [crossU h a b] else []) := by
 obtain ⟨c, up, ab⟩ := h; unfold half1Q inU crossU; dsimp only
 cases up with
 | false => simp only [Bool.false_eq_true, if_false]
 | true =>
  simp only [if_true]; have ht : a.turn.turn = a := rfl
  split <;> split <;> simp_all
structure Addy (h : Hf) (F : PtQ -> PtQ -> Int) (g : PtQ -> Int) : Prop where
 add : ∀ a b, inU h a ≠ inU h b -> F a b = F a (crossU h a b) + F (crossU h a b) b
 out : ∀ a b, OutU h a -> OutU h b -> F a b = g b - g a
theorem Addy.none {h : Hf} {F : PtQ -> PtQ -> Int} {g : PtQ -> Int} (H : Addy h F g) : ∀ (l : List PtQ) (a b : PtQ), (∀ x ∈ a :: l, OutU h x) -> OutU h b -> psum F a l b = g b - g a
 | [], a, b, ha, hb => H.out a b (ha a (by simp)) hb
 | x :: l, a, b, ha, hb => by
  show F a x + psum F x l b = _; rw [Addy.none H l x b (fun y hy => ha y (by simp at hy ⊢; exact .inr hy)) hb, H.out a x (ha a (by simp)) (ha x (by simp))]; omega
theorem Addy.zero {h : Hf} {F : PtQ -> PtQ -> Int} {g : PtQ -> Int} (H : Addy h F g) {l : List PtQ} (hl : ∀ x ∈ l, OutU h x) : csum F l = 0 := by
 cases l with
 | nil => rfl
 | cons a l => rw [csum_cons, H.none l a a hl (hl a (by simp))]; omega
theorem Addy.path {h : Hf} {F : PtQ -> PtQ -> Int} {g : PtQ -> Int} (H : Addy h F g) (b : PtQ) (hb : inU h b = true) : ∀ (l : List PtQ) (a : PtQ),
  (inU h a = true -> ∃ rest, emi (half1Q h.c h.up h.ab) a l b = a :: rest /\ psum F a rest b = psum F a l b) /\ (inU h a = false -> ∀ z, OutU h z -> psum F z (emi (half1Q h.c h.up h.ab) a l b) b = psum F a l b + g a - g z) := by
 intro l
 induction l with
 | nil =>
  intro a; refine ⟨fun ha => ⟨[], ?_, rfl⟩, fun ha z hz => ?_⟩
  ·show half1Q _ _ _ a b = _
   rw [half1_u, ha, hb]; rfl
  ·have e : emi (half1Q h.c h.up h.ab) a [] b = [crossU h a b] := by
    show half1Q _ _ _ a b = _; rw [half1_u, ha, hb]; rfl
   rw [e]; show F z (crossU h a b) + F (crossU h a b) b = F a b + g a - g z; have h1 := H.add a b (by rw [ha, hb]; decide); have h2 := H.out z _ hz (outU_cross h a b); have h3 := H.out a _ (outU_of ha) (outU_cross h a b); omega
 | cons x l ih =>
  intro a; obtain ⟨i1, i2⟩ := ih x; have he : ∀ o, half1Q h.c h.up h.ab a x = o -> emi (half1Q h.c h.up h.ab) a (x :: l) b = o ++ emi (half1Q h.c h.up h.ab) x l b := by rintro o rfl; rfl
  have hp : psum F a (x :: l) b = F a x + psum F x l b := rfl; rw [hp]
  cases hx : inU h x with
  | true =>
   obtain ⟨rest, hr, hrp⟩ := i1 hx; refine ⟨fun ha => ⟨x :: rest, ?_, ?_⟩, fun ha z hz => ?_⟩
   ·rw [he [a] (by rw [half1_u, ha, hx]; rfl), hr]; rfl
   ·show F a x + psum F x rest b = _
    rw [hrp]
   ·rw [he [crossU h a x] (by rw [half1_u, ha, hx]; rfl), hr]
    show F z (crossU h a x) + (F (crossU h a x) x + psum F x rest b) = _; have h1 := H.add a x (by rw [ha, hx]; decide); have h2 := H.out z _ hz (outU_cross h a x); have h3 := H.out a _ (outU_of ha) (outU_cross h a x); omega
  | false =>
   have i2 := i2 hx; refine ⟨fun ha => ⟨crossU h a x :: emi (half1Q h.c h.up h.ab) x l b, ?_, ?_⟩, fun ha z hz => ?_⟩
   ·rw [he [a, crossU h a x] (by rw [half1_u, ha, hx]; rfl)]; rfl
   ·show F a (crossU h a x) + psum F (crossU h a x) _ b = _
    have h1 := H.add a x (by rw [ha, hx]; decide); have h2 := H.out (crossU h a x) x (outU_cross h a x) (outU_of hx); have h3 := i2 (crossU h a x) (outU_cross h a x); omega
   ·rw [he [] (by rw [half1_u, ha, hx]; rfl), List.nil_append]
    have h1 := i2 z hz; have h2 := H.out a x (outU_of ha) (outU_of hx); omega
theorem Addy.half {h : Hf} {F : PtQ -> PtQ -> Int} {g : PtQ -> Int} (H : Addy h F g) (l : List PtQ) : csum F (halfQ h.c h.up h.ab l) = csum F l := by
 by_cases hin : ∃ n ∈ l, inU h n = true
 ·obtain ⟨n, hn, hh⟩ := hin
  obtain ⟨u, v, rfl⟩ := List.append_of_mem hn
  have hr : IsRot (u ++ n :: v) (n :: (v ++ u)) := ⟨u, n :: v, rfl, rfl⟩
  have h2 : csum F (halfQ h.c h.up h.ab (u ++ n :: v)) = _ := csum_rot F (cyc_rot (half1Q h.c h.up h.ab) hr); rw [csum_rot F hr, h2, cyc_emi]; obtain ⟨rest, he, hp⟩ := (H.path n hh (v ++ u) n).1 hh; rw [he, csum_cons, csum_cons, hp]
 ·have hf : ∀ x ∈ l, inU h x = false := fun x hx => by
   cases h' : inU h x
   ·rfl
   ·exact absurd ⟨x, hx, h'⟩ hin
  have : halfQ h.c h.up h.ab l = [] := by
   rw [List.eq_nil_iff_forall_not_mem]; intro x hx; obtain ⟨a, ha, b, hb, hx⟩ := mem_cyc hx; rw [half1_u, hf a ha, hf b hb] at hx; simp at hx
  rw [this, H.zero fun x hx => outU_of (hf x hx)]; rfl
def sideQ (a b p : PtQ) : Rat := (b.x - a.x) * (p.y - a.y) - (b.y - a.y) * (p.x - a.x)
def sideIQ (a b p : PtQ) : Int := cmpR ((b.x - a.x) * (p.y - a.y)) ((b.y - a.y) * (p.x - a.x))
def withinQ (a b n : Rat) : Bool := (decide (cmpR a n <= 0) && decide (cmpR n b <= 0)) || (decide (cmpR b n <= 0) && decide (cmpR n a <= 0))
def touchQ (a b p : PtQ) : Bool := decide (sideIQ a b p = 0) && withinQ a.x b.x p.x && withinQ a.y b.y p.y
def chiQ (p a b : PtQ) : Int := (if (decide (cmpR a.y p.y <= 0) && !decide (cmpR b.y p.y <= 0) && decide (0 < sideIQ a b p)) = true then 1 else 0) + (if (!decide (cmpR a.y p.y <= 0) && decide (cmpR b.y p.y <= 0) && decide (sideIQ a b p < 0)) = true then -1 else 0)
def touchI (p a b : PtQ) : Int := if touchQ a b p = true then 1 else 0
def windQ (l : List PtQ) (p : PtQ) : Int × Bool := if csum (touchI p) l = 0 then (csum (chiQ p) l, true) else (0, false)
theorem sideIQ_pos (a b p : PtQ) : 0 < sideIQ a b p ↔ 0 < sideQ a b p := by unfold sideIQ sideQ; rw [cmpR_gt]; constructor <;> intro h <;> grind
theorem sideIQ_neg (a b p : PtQ) : sideIQ a b p < 0 ↔ sideQ a b p < 0 := by unfold sideIQ sideQ; rw [cmpR_lt]; constructor <;> intro h <;> grind
theorem sideIQ_zero (a b p : PtQ) : sideIQ a b p = 0 ↔ sideQ a b p = 0 := by unfold sideIQ sideQ; rw [cmpR_eq]; constructor <;> intro h <;> grind
theorem within_iff (a b n : Rat) : withinQ a b n = true ↔ (a <= n /\ n <= b) ∨ (b <= n /\ n <= a) := by
 unfold withinQ
 simp only [Bool.or_eq_true, Bool.and_eq_true, decide_eq_true_eq, cmpR_le]
theorem touch_iff (a b p : PtQ) : touchQ a b p = true ↔ ∃ r : Rat, 0 <= r /\ r <= 1 /\ p.x = a.x + r * (b.x - a.x) /\ p.y = a.y + r * (b.y - a.y) := by
 unfold touchQ; simp only [Bool.and_eq_true, decide_eq_true_eq, within_iff, sideIQ_zero]; unfold sideQ
 constructor
 ·rintro ⟨⟨h0, hx⟩, hy⟩
  have key : ∀ (ax bx px ay by' py : Rat), (bx - ax) * (py - ay) = (by' - ay) * (px - ax) -> ((ax <= px /\ px <= bx) ∨ (bx <= px /\ px <= ax)) -> bx - ax ≠ 0 -> ∃ r : Rat, 0 <= r /\ r <= 1 /\ px = ax + r * (bx - ax) /\ py = ay + r * (by' - ay) := by
   intro ax bx px ay by' py h0 hx hd
   have hr : px - ax = (px - ax) / (bx - ax) * (bx - ax) := by grind
   have hr' : py - ay = (px - ax) / (bx - ax) * (by' - ay) := by grind
   generalize (px - ax) / (bx - ax) = r at hr hr'; refine ⟨r, ?_, ?_, by grind, by grind⟩
   ·rw [<- Rat.not_lt]
    intro hn
    rcases hx with ⟨h1, h2⟩ | ⟨h1, h2⟩
    ·have := Rat.mul_pos (show 0 < -r by grind) (show 0 < bx - ax by grind)
     grind
    ·have := Rat.mul_pos (show 0 < -r by grind) (show 0 < ax - bx by grind)
     grind
   ·rw [<- Rat.not_lt]
    intro hn
    rcases hx with ⟨h1, h2⟩ | ⟨h1, h2⟩
    ·have := Rat.mul_pos (show 0 < r - 1 by grind) (show 0 < bx - ax by grind)
     grind
    ·have := Rat.mul_pos (show 0 < r - 1 by grind) (show 0 < ax - bx by grind)
     grind
  by_cases hd : b.x - a.x = 0
  ·by_cases he : b.y - a.y = 0
   ·exact ⟨0, by grind, by grind, by grind, by grind⟩
   ·obtain ⟨r, r0, r1, h1, h2⟩ := key a.y b.y p.y a.x b.x p.x (by grind) hy he
    exact ⟨r, r0, r1, h2, h1⟩
  ·exact key a.x b.x p.x a.y b.y p.y (by grind) hx hd
 ·rintro ⟨r, r0, r1, hx, hy⟩
  have key : ∀ (ax bx px : Rat), px = ax + r * (bx - ax) -> (ax <= px /\ px <= bx) ∨ (bx <= px /\ px <= ax) := by
   intro ax bx px h
   by_cases hs : ax <= bx
   ·left
    have a1 := Rat.mul_nonneg r0 (show 0 <= bx - ax by grind); have a2 := Rat.mul_nonneg (show 0 <= 1 - r by grind) (show 0 <= bx - ax by grind)
    constructor <;> grind
   ·right
    have a1 := Rat.mul_nonneg r0 (show 0 <= ax - bx by grind); have a2 := Rat.mul_nonneg (show 0 <= 1 - r by grind) (show 0 <= ax - bx by grind)
    constructor <;> grind
  refine ⟨⟨by rw [hx, hy]; grind, key _ _ _ hx⟩, key _ _ _ hy⟩
theorem cross_part {h : Hf} {a b : PtQ} (hne : inU h a ≠ inU h b) : ∃ s : Rat, 0 <= s /\ s <= 1 /\ (crossU h a b).x = a.x + s * (b.x - a.x) /\ (crossU h a b).y = a.y + s * (b.y - a.y) /\ (if h.up = true then a.y ≠ b.y else a.x ≠ b.x) := by
 have key : ∀ (a b : PtQ) (c : Int) (ab : Bool), inQ a.x c ab ≠ inQ b.x c ab -> ∃ s : Rat, 0 <= s /\ s <= 1 /\ (crossQ a b c).x = a.x + s * (b.x - a.x) /\ (crossQ a b c).y = a.y + s * (b.y - a.y) /\ a.x ≠ b.x := by
  intro a b c ab h; obtain ⟨hn, hb⟩ := inQ_ne h; have hd : b.x - a.x ≠ 0 := fun e => hn (by grind)
  unfold crossQ; dsimp only; have hs : (c : Rat) = a.x + ((c : Rat) - a.x) / (b.x - a.x) * (b.x - a.x) := by grind
  generalize ((c : Rat) - a.x) / (b.x - a.x) = s at *; refine ⟨s, ?_, ?_, hs, rfl, hn⟩
  ·rw [<- Rat.not_lt]
   intro hn
   rcases hb with ⟨h1, h2⟩ | ⟨h1, h2⟩
   ·have := Rat.mul_pos (show 0 < -s by grind) (show 0 < b.x - a.x by grind)
    grind
   ·have := Rat.mul_pos (show 0 < -s by grind) (show 0 < a.x - b.x by grind)
    grind
  ·rw [<- Rat.not_lt]
   intro hn
   rcases hb with ⟨h1, h2⟩ | ⟨h1, h2⟩
   ·have := Rat.mul_pos (show 0 < s - 1 by grind) (show 0 < b.x - a.x by grind)
    grind
   ·have := Rat.mul_pos (show 0 < s - 1 by grind) (show 0 < a.x - b.x by grind)
    grind
 obtain ⟨c, up, ab⟩ := h; unfold inU at hne; unfold crossU; dsimp only at *
 cases up with
 | false =>
  simp only [Bool.false_eq_true, if_false] at hne ⊢; exact key a b c ab hne
 | true =>
  simp only [if_true] at hne ⊢; obtain ⟨s, s0, s1, h1, h2, h3⟩ := key a.turn b.turn c ab hne; exact ⟨s, s0, s1, h2, h1, h3⟩
theorem chi_val (p a b : PtQ) : chiQ p a b = if a.y <= p.y /\ ¬ b.y <= p.y /\ 0 < sideQ a b p then 1 else if ¬ a.y <= p.y /\ b.y <= p.y /\ sideQ a b p < 0 then -1 else 0 := by
 unfold chiQ; simp only [Bool.and_eq_true, Bool.not_eq_true', decide_eq_true_eq, decide_eq_false_iff_not, cmpR_le, sideIQ_pos, sideIQ_neg, and_assoc]
 by_cases h1 : a.y <= p.y <;> by_cases h2 : b.y <= p.y <;> simp [h1, h2]
theorem chi_add {h : Hf} {a b : PtQ} (p : PtQ) (hne : inU h a ≠ inU h b) : chiQ p a b = chiQ p a (crossU h a b) + chiQ p (crossU h a b) b := by
 obtain ⟨s, s0, s1, hx, hy, -⟩ := cross_part hne; generalize crossU h a b = m at *; have d1 : sideQ a m p = s * sideQ a b p := by unfold sideQ; rw [hx, hy]; grind
 have d2 : sideQ m b p = (1 - s) * sideQ a b p := by unfold sideQ; rw [hx, hy]; grind
 rw [chi_val, chi_val, chi_val, d1, d2]; generalize sideQ a b p = D at *
 have hm1 : a.y <= p.y -> b.y <= p.y -> m.y <= p.y := by
  intro h1 h2; have a1 := Rat.mul_nonneg (show 0 <= 1 - s by grind) (show 0 <= p.y - a.y by grind); have a2 := Rat.mul_nonneg s0 (show 0 <= p.y - b.y by grind); grind
 have hm2 : ¬ a.y <= p.y -> ¬ b.y <= p.y -> ¬ m.y <= p.y := by
  intro h1 h2 h3
  by_cases hs : s = 0
  ·subst hs; grind
  ·have a1 := Rat.mul_nonneg (show 0 <= 1 - s by grind) (show 0 <= a.y - p.y by grind)
   have a2 := Rat.mul_pos (show 0 < s by grind) (show 0 < b.y - p.y by grind); grind
 have hs0 : s = 0 -> m.y = a.y := by intro h; rw [hy, h]; grind
 have hs1 : s = 1 -> m.y = b.y := by intro h; rw [hy, h]; grind
 rcases (show D < 0 ∨ D = 0 ∨ 0 < D by grind) with hD | hD | hD
 ·have z1 : ¬ 0 < s * D := by
   have := Rat.mul_nonneg s0 (show 0 <= -D by grind); grind
  have z2 : ¬ 0 < (1 - s) * D := by
   have := Rat.mul_nonneg (show 0 <= 1 - s by grind) (show 0 <= -D by grind); grind
  have z3 : s ≠ 0 -> s * D < 0 := by
   intro h; have := Rat.mul_pos (show 0 < s by grind) (show 0 < -D by grind); grind
  have z4 : s ≠ 1 -> (1 - s) * D < 0 := by
   intro h; have := Rat.mul_pos (show 0 < 1 - s by grind) (show 0 < -D by grind); grind
  have z5 : ¬ 0 < D := by grind
  by_cases e0 : s = 0
  ·have em := hs0 e0
   clear z1 z2 z3 z4 hs0 hs1 hm1 hm2 hx hy; subst e0; rw [em, show (0 : Rat) * D = 0 by grind, show (1 - 0) * D = D by grind]
   by_cases h1 : a.y <= p.y <;> by_cases h2 : b.y <= p.y <;> simp [h1, h2, hD, z5]
  ·by_cases e1 : s = 1
   ·have em := hs1 e1
    clear z1 z2 z3 z4 hs0 hs1 hm1 hm2 hx hy e0; subst e1; rw [em, show (1 : Rat) * D = D by grind, show (1 - 1) * D = 0 by grind]
    by_cases h1 : a.y <= p.y <;> by_cases h2 : b.y <= p.y <;> simp [h1, h2, hD, z5]
   ·have y1 := z3 e0
    have y2 := z4 e1; clear z3 z4
    by_cases h1 : a.y <= p.y <;> by_cases h2 : b.y <= p.y <;> by_cases h3 : m.y <= p.y <;> simp only [z1, z2, z5, y1, y2, hD, h1, h2, h3, and_true, and_false, not_true_eq_false, not_false_eq_true, if_false, if_true] <;> first | rfl | (exfalso; grind)
 ·subst hD
  simp
 ·have z1 : ¬ s * D < 0 := by
   have := Rat.mul_nonneg s0 (show 0 <= D by grind); grind
  have z2 : ¬ (1 - s) * D < 0 := by
   have := Rat.mul_nonneg (show 0 <= 1 - s by grind) (show 0 <= D by grind); grind
  have z3 : s ≠ 0 -> 0 < s * D := fun h => Rat.mul_pos (show 0 < s by grind) hD
  have z4 : s ≠ 1 -> 0 < (1 - s) * D := fun h => Rat.mul_pos (show 0 < 1 - s by grind) hD
  have z5 : ¬ D < 0 := by grind
  by_cases e0 : s = 0
  ·have em := hs0 e0
   clear z1 z2 z3 z4 hs0 hs1 hm1 hm2 hx hy; subst e0; rw [em, show (0 : Rat) * D = 0 by grind, show (1 - 0) * D = D by grind]
   by_cases h1 : a.y <= p.y <;> by_cases h2 : b.y <= p.y <;> simp [h1, h2, hD, z5]
  ·by_cases e1 : s = 1
   ·have em := hs1 e1
    clear z1 z2 z3 z4 hs0 hs1 hm1 hm2 hx hy e0; subst e1; rw [em, show (1 : Rat) * D = D by grind, show (1 - 1) * D = 0 by grind]
    by_cases h1 : a.y <= p.y <;> by_cases h2 : b.y <= p.y <;> simp [h1, h2, hD, z5]
   ·have y1 := z3 e0
    have y2 := z4 e1; clear z3 z4
    by_cases h1 : a.y <= p.y <;> by_cases h2 : b.y <= p.y <;> by_cases h3 : m.y <= p.y <;> simp only [z1, z2, z5, y1, y2, hD, h1, h2, h3, and_true, and_false, not_true_eq_false, not_false_eq_true, if_false, if_true] <;> first | rfl | (exfalso; grind)
theorem deep_ne {h : Hf} {p : PtQ} (hp : DeepU h p) (a b : PtQ) : ¬ (p.x = (crossU h a b).x /\ p.y = (crossU h a b).y) := by
 obtain ⟨c, up, ab⟩ := h; unfold DeepU at hp; unfold crossU crossQ PtQ.turn; dsimp only at *
 cases up <;> cases ab <;> simp at hp ⊢ <;> grind
theorem touch_add {h : Hf} {a b p : PtQ} (hp : DeepU h p) (hne : inU h a ≠ inU h b) : touchI p a b = touchI p a (crossU h a b) + touchI p (crossU h a b) b := by
 have hnm := deep_ne hp a b; obtain ⟨s, s0, s1, hx, hy, hd⟩ := cross_part hne
 have hd : a.x ≠ b.x ∨ a.y ≠ b.y := by
  split at hd
  ·exact .inr hd
  ·exact .inl hd
 generalize crossU h a b = m at *
 have k1 : touchQ a b p = true -> touchQ a m p = true ∨ touchQ m b p = true := by
  rw [touch_iff, touch_iff, touch_iff]; rintro ⟨r, r0, r1, h1, h2⟩
  by_cases hr : r <= s
  ·left
   have hs : s ≠ 0 := by
    intro e; have : r = 0 := by grind
    exact hnm ⟨by rw [h1, hx, this, e], by rw [h2, hy, this, e]⟩
   have hq : r / s * s = r := by grind
   have q0 : 0 <= r / s := by
    rw [<- Rat.not_lt]; intro hn; have := Rat.mul_pos (show 0 < -(r / s) by grind) (show 0 < s by grind); grind
   have q1 : r / s <= 1 := by
    rw [<- Rat.not_lt]; intro hn; have := Rat.mul_pos (show 0 < r / s - 1 by grind) (show 0 < s by grind); grind
   generalize r / s = q at *; exact ⟨q, q0, q1, by rw [hx, h1]; grind, by rw [hy, h2]; grind⟩
  ·right
   have hs : 1 - s ≠ 0 := by grind
   have hq : (r - s) / (1 - s) * (1 - s) = r - s := by grind
   have q0 : 0 <= (r - s) / (1 - s) := by
    rw [<- Rat.not_lt]; intro hn; have := Rat.mul_pos (show 0 < -((r - s) / (1 - s)) by grind) (show 0 < 1 - s by grind); grind
   have q1 : (r - s) / (1 - s) <= 1 := by
    rw [<- Rat.not_lt]; intro hn; have := Rat.mul_pos (show 0 < (r - s) / (1 - s) - 1 by grind) (show 0 < 1 - s by grind); grind
   generalize (r - s) / (1 - s) = q at *; exact ⟨q, q0, q1, by rw [hx, h1]; grind, by rw [hy, h2]; grind⟩
 have k2 : touchQ a m p = true -> ∃ r : Rat, 0 <= r /\ r <= s /\ p.x = a.x + r * (b.x - a.x) /\ p.y = a.y + r * (b.y - a.y) := by
  rw [touch_iff]; rintro ⟨r, r0, r1, h1, h2⟩; have a1 := Rat.mul_nonneg r0 s0; have a2 := Rat.mul_nonneg (show 0 <= 1 - r by grind) s0; exact ⟨r * s, a1, by grind, by rw [h1, hx]; grind, by rw [h2, hy]; grind⟩
 have k3 : touchQ m b p = true -> ∃ r : Rat, s <= r /\ r <= 1 /\ p.x = a.x + r * (b.x - a.x) /\ p.y = a.y + r * (b.y - a.y) := by
  rw [touch_iff]; rintro ⟨r, r0, r1, h1, h2⟩; have a1 := Rat.mul_nonneg r0 (show 0 <= 1 - s by grind); have a2 := Rat.mul_nonneg (show 0 <= 1 - r by grind) (show 0 <= 1 - s by grind); exact ⟨s + r * (1 - s), by grind, by grind, by rw [h1, hx]; grind, by rw [h2, hy]; grind⟩
 unfold touchI
 cases t2 : touchQ a m p with
 | true =>
  obtain ⟨r, r0, r1, h1, h2⟩ := k2 t2; have t1 : touchQ a b p = true := (touch_iff a b p).2 ⟨r, r0, by grind, h1, h2⟩
  cases t3 : touchQ m b p with
  | true =>
   exfalso
   obtain ⟨q, q0, q1, g1, g2⟩ := k3 t3
   have hz : ∀ (u v : Rat), u ≠ v -> r * (v - u) = q * (v - u) -> r = q := by
    intro u v hn he; have : (r - q) * (v - u) = 0 := by grind
    rcases Rat.mul_eq_zero.1 this with h | h
    ·grind
    ·exact absurd (show u = v by grind) hn
   have hrq : r = q := by
    rcases hd with hd | hd
    ·exact hz _ _ hd (by grind)
    ·exact hz _ _ hd (by grind)
   have hrs : r = s := by grind
   exact hnm ⟨by rw [h1, hx, hrs], by rw [h2, hy, hrs]⟩
  | false => rw [t1]; rfl
 | false =>
  cases t3 : touchQ m b p with
  | true =>
   obtain ⟨r, r0, r1, h1, h2⟩ := k3 t3; have t1 : touchQ a b p = true := (touch_iff a b p).2 ⟨r, by grind, r1, h1, h2⟩; rw [t1]; rfl
  | false =>
   cases t1 : touchQ a b p with
   | true => rcases k1 t1 with h | h <;> simp_all
   | false => rfl
theorem touch_out {h : Hf} {p : PtQ} (hp : DeepU h p) (a b : PtQ) (ha : OutU h a) (hb : OutU h b) : touchQ a b p = false := by
 have H : ¬ touchQ a b p = true := by
  unfold touchQ; simp only [Bool.and_eq_true, within_iff]; rintro ⟨⟨-, h1⟩, h2⟩; obtain ⟨c, up, ab⟩ := h; unfold DeepU at hp; unfold OutU at ha hb; dsimp only at *
  cases up <;> cases ab <;> simp at hp ha hb <;> grind
 simpa using H
theorem addy_touch {h : Hf} {p : PtQ} (hp : DeepU h p) : Addy h (touchI p) (fun _ => 0) :=
 ⟨fun a b hne => touch_add hp hne, fun a b ha hb => by unfold touchI; rw [touch_out hp a b ha hb]; rfl⟩
theorem addy_chi {h : Hf} {p : PtQ} (hp : DeepU h p) : ∃ g, Addy h (chiQ p) g := by
 obtain ⟨c, up, ab⟩ := h; have A := fun (a b : PtQ) (hne : inU ⟨c, up, ab⟩ a ≠ inU ⟨c, up, ab⟩ b) => chi_add p hne
 have SQ : ∀ a b : PtQ, sideQ a b p = (p.y - a.y) * (b.x - p.x) - (b.y - p.y) * (p.x - a.x) := fun a b => by unfold sideQ; grind
 unfold DeepU at hp; dsimp only at hp
 cases up with
 | false =>
  cases ab with
  | true =>
   simp only [Bool.false_eq_true, if_false, if_true] at hp; refine ⟨fun _ => 0, A, fun a b ha hb => ?_⟩; unfold OutU at ha hb; simp only [Bool.false_eq_true, if_false, if_true] at ha hb; rw [chi_val, SQ, if_neg, if_neg]
   ·rfl
   ·rintro ⟨h1, h2, h3⟩
    have a1 := Rat.mul_pos (show 0 < a.y - p.y by grind) (show 0 < p.x - b.x by grind); have a2 := Rat.mul_nonneg (show 0 <= p.y - b.y by grind) (show 0 <= p.x - a.x by grind); grind
   ·rintro ⟨h1, h2, h3⟩
    have a1 := Rat.mul_nonneg (show 0 <= p.y - a.y by grind) (show 0 <= p.x - b.x by grind); have a2 := Rat.mul_pos (show 0 < b.y - p.y by grind) (show 0 < p.x - a.x by grind); grind
  | false =>
   simp only [Bool.false_eq_true, if_false] at hp; refine ⟨fun q => if q.y <= p.y then 0 else 1, A, fun a b ha hb => ?_⟩; unfold OutU at ha hb; simp only [Bool.false_eq_true, if_false] at ha hb; rw [chi_val, SQ]
   by_cases h1 : a.y <= p.y <;> by_cases h2 : b.y <= p.y
   ·simp [h1, h2]
   ·have a1 := Rat.mul_nonneg (show 0 <= p.y - a.y by grind) (show 0 <= b.x - p.x by grind)
    have a2 := Rat.mul_pos (show 0 < b.y - p.y by grind) (show 0 < a.x - p.x by grind); rw [if_pos ⟨h1, h2, by grind⟩, if_neg h2, if_pos h1]; rfl
   ·have a1 := Rat.mul_pos (show 0 < a.y - p.y by grind) (show 0 < b.x - p.x by grind)
    have a2 := Rat.mul_nonneg (show 0 <= p.y - b.y by grind) (show 0 <= a.x - p.x by grind); rw [if_neg (fun h => h1 h.1), if_pos ⟨h1, h2, by grind⟩, if_pos h2, if_neg h1]; rfl
   ·simp [h1, h2]
 | true =>
  refine ⟨fun _ => 0, A, fun a b ha hb => ?_⟩; unfold OutU at ha hb; simp only [if_true] at ha hb hp; rw [chi_val]
  cases ab with
  | true =>
   simp only [if_true] at ha hb hp; have h1 : a.y <= p.y := by grind
   have h2 : b.y <= p.y := by grind
   simp [h1, h2]
  | false =>
   simp only [Bool.false_eq_true, if_false] at ha hb hp; have h1 : ¬ a.y <= p.y := by grind
   have h2 : ¬ b.y <= p.y := by grind
   simp [h1, h2]
theorem half_wind {h : Hf} {p : PtQ} (hp : DeepU h p) (l : List PtQ) : windQ (halfQ h.c h.up h.ab l) p = windQ l p := by
 obtain ⟨g, hg⟩ := addy_chi hp; unfold windQ; rw [(addy_touch hp).half, hg.half]
theorem out_wind {h : Hf} {p : PtQ} (hp : DeepU h p) {l : List PtQ} (hl : ∀ x ∈ l, OutU h x) : windQ l p = (0, true) := by
 obtain ⟨g, hg⟩ := addy_chi hp; unfold windQ; rw [(addy_touch hp).zero hl, hg.zero hl]; rfl
theorem clip_wind {l : List Pt} {lo hi : Int} {p : PtQ} (h1 : (lo : Rat) < p.x) (h2 : p.x < (hi : Rat)) (h3 : (lo : Rat) < p.y) (h4 : p.y < (hi : Rat)) : windQ (clip25Q l lo hi) p = windQ (l.map Pt.pq) p := by
 unfold clip25Q; rw [half_wind (h := ⟨hi, true, false⟩) (by simpa [DeepU] using h4), half_wind (h := ⟨lo, true, true⟩) (by simpa [DeepU] using h3), half_wind (h := ⟨hi, false, false⟩) (by simpa [DeepU] using h2), half_wind (h := ⟨lo, false, true⟩) (by simpa [DeepU] using h1)]
theorem half_mem {h : Hf} {l : List PtQ} {q : PtQ} (hq : q ∈ halfQ h.c h.up h.ab l) : inU h q = true /\ (q ∈ l ∨ ∃ a ∈ l, ∃ b ∈ l, ∃ s : Rat, 0 <= s /\ s <= 1 /\ q.x = a.x + s * (b.x - a.x) /\ q.y = a.y + s * (b.y - a.y)) := by
 obtain ⟨a, ha, b, hb, hx⟩ := mem_cyc hq; rw [half1_u] at hx; rcases List.mem_append.1 hx with hx | hx
 ·split at hx
  ·rename_i h1
   rw [List.mem_singleton.1 hx]; exact ⟨h1, .inl ha⟩
  ·simp at hx
 ·split at hx
  ·rename_i h1
   obtain ⟨s, s0, s1, e1, e2, -⟩ := cross_part h1; rw [List.mem_singleton.1 hx]; refine ⟨?_, .inr ⟨a, ha, b, hb, s, s0, s1, e1, e2⟩⟩; unfold inU crossU crossQ PtQ.turn inQ
   cases h.up <;> cases h.ab <;> simp <;> grind
  ·simp at hx
theorem half_lin {h : Hf} {l : List PtQ} {lo : Rat} {up : Bool} (hl : ∀ q ∈ l, lo <= (if up = true then q.y else q.x)) : ∀ q ∈ halfQ h.c h.up h.ab l, lo <= (if up = true then q.y else q.x) := by
 intro q hq
 rcases (half_mem hq).2 with h1 | ⟨a, ha, b, hb, s, s0, s1, e1, e2⟩
 ·exact hl q h1
 ·have k1 := hl a ha
  have k2 := hl b hb
  cases up <;> simp only [Bool.false_eq_true, if_false, if_true] at k1 k2 ⊢
  ·have a1 := Rat.mul_nonneg s0 (show 0 <= b.x - lo by grind)
   have a2 := Rat.mul_nonneg (show 0 <= 1 - s by grind) (show 0 <= a.x - lo by grind); grind
  ·have a1 := Rat.mul_nonneg s0 (show 0 <= b.y - lo by grind)
   have a2 := Rat.mul_nonneg (show 0 <= 1 - s by grind) (show 0 <= a.y - lo by grind); grind
theorem half_lin' {h : Hf} {l : List PtQ} {hi : Rat} {up : Bool} (hl : ∀ q ∈ l, (if up = true then q.y else q.x) <= hi) : ∀ q ∈ halfQ h.c h.up h.ab l, (if up = true then q.y else q.x) <= hi := by
 intro q hq
 rcases (half_mem hq).2 with h1 | ⟨a, ha, b, hb, s, s0, s1, e1, e2⟩
 ·exact hl q h1
 ·have k1 := hl a ha
  have k2 := hl b hb
  cases up <;> simp only [Bool.false_eq_true, if_false, if_true] at k1 k2 ⊢
  ·have a1 := Rat.mul_nonneg s0 (show 0 <= hi - b.x by grind)
   have a2 := Rat.mul_nonneg (show 0 <= 1 - s by grind) (show 0 <= hi - a.x by grind); grind
  ·have a1 := Rat.mul_nonneg s0 (show 0 <= hi - b.y by grind)
   have a2 := Rat.mul_nonneg (show 0 <= 1 - s by grind) (show 0 <= hi - a.y by grind); grind
theorem cring_in {l : List Pt} {lo hi : Int} : ∀ q ∈ clip25Q l lo hi, (lo : Rat) <= q.x /\ q.x <= (hi : Rat) /\ (lo : Rat) <= q.y /\ q.y <= (hi : Rat) := by
 intro q hq; unfold clip25Q at hq; generalize l.map Pt.pq = l0 at hq; have c1 : ∀ q ∈ halfQ lo false true l0, (lo : Rat) <= q.x := fun q hq => by simpa [inU, inQ] using (half_mem (h := ⟨lo, false, true⟩) hq).1
 generalize halfQ lo false true l0 = l1 at *
 have c2 : ∀ q ∈ halfQ hi false false l1, (lo : Rat) <= q.x /\ q.x <= (hi : Rat) := fun q hq => ⟨by simpa using half_lin (h := ⟨hi, false, false⟩) (up := false) (by simpa using c1) q hq, by simpa [inU, inQ] using (half_mem (h := ⟨hi, false, false⟩) hq).1⟩
 generalize halfQ hi false false l1 = l2 at *
 have c3 : ∀ q ∈ halfQ lo true true l2, (lo : Rat) <= q.x /\ q.x <= (hi : Rat) /\ (lo : Rat) <= q.y := fun q hq => ⟨by simpa using half_lin (h := ⟨lo, true, true⟩) (up := false) (by simpa using fun q hq => (c2 q hq).1) q hq, by simpa using half_lin' (h := ⟨lo, true, true⟩) (up := false) (by simpa using fun q hq => (c2 q hq).2) q hq, of_decide_eq_true (half_mem (h := ⟨lo, true, true⟩) hq).1⟩
 generalize halfQ lo true true l2 = l3 at *; refine ⟨by simpa using half_lin (h := ⟨hi, true, false⟩) (up := false) (by simpa using fun q hq => (c3 q hq).1) q hq, by simpa using half_lin' (h := ⟨hi, true, false⟩) (up := false) (by simpa using fun q hq => (c3 q hq).2.1) q hq, by simpa using half_lin (h := ⟨hi, true, false⟩) (up := true) (by simpa using fun q hq => (c3 q hq).2.2) q hq, of_decide_eq_true (half_mem (h := ⟨hi, true, false⟩) hq).1⟩
theorem clip_out {l : List Pt} {lo hi : Int} {p : PtQ} (hp : p.x < (lo : Rat) ∨ (hi : Rat) < p.x ∨ p.y < (lo : Rat) ∨ (hi : Rat) < p.y) : windQ (clip25Q l lo hi) p = (0, true) := by
 rcases hp with hp | hp | hp | hp
 ·exact out_wind (h := ⟨lo, false, false⟩) (by simpa [DeepU] using hp) fun x hx => by simpa [OutU] using (cring_in x hx).1
 ·exact out_wind (h := ⟨hi, false, true⟩) (by simpa [DeepU] using hp) fun x hx => by simpa [OutU] using (cring_in x hx).2.1
 ·exact out_wind (h := ⟨lo, true, false⟩) (by simpa [DeepU] using hp) fun x hx => by simpa [OutU] using (cring_in x hx).2.2.1
 ·exact out_wind (h := ⟨hi, true, true⟩) (by simpa [DeepU] using hp) fun x hx => by simpa [OutU] using (cring_in x hx).2.2.2
end Go.Proofs.YteeeeddeacepmaaGreatDoor
