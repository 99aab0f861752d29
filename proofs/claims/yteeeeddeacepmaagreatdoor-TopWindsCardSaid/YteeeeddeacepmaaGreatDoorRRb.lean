import Derived.Test.YteeeeddeacepmaaGreatDoorRRa
namespace Go.Proofs.YteeeeddeacepmaaGreatDoor
set_option maxRecDepth 100000
open Go.RowKit B
theorem fcmp_val {f : Fr} (h : f.right = true) (n : Int) : (0 <= fcmpS f n ↔ (n : Rat) <= f.val) /\ (fcmpS f n <= 0 ↔ f.val <= (n : Rat)) := by
 obtain ⟨-, h1, -, h3, -⟩ := Fr.right_iff h; unfold fcmpS; rw [if_pos h]; obtain ⟨q, r, d⟩ := f; dsimp only at *; have hd : (0 : Rat) < ((d : Int) : Rat) := cast_pos (by omega); have hr0 : (0 : Rat) <= ((r : Int) : Rat) := by exact_mod_cast (by omega : (0 : Int) <= r)
 have hr1 : ((r : Int) : Rat) < ((d : Int) : Rat) := by exact_mod_cast (by omega : (r : Int) < d)
 have hv0 : (0 : Rat) <= ((r : Int) : Rat) / ((d : Int) : Rat) := by
  rw [<- Rat.not_lt]; intro h; rw [Rat.div_lt_iff hd] at h; grind
 have hv1 : ((r : Int) : Rat) / ((d : Int) : Rat) < 1 := by rw [Rat.div_lt_iff hd]; grind
 have hz : (((r : Int) : Rat) / ((d : Int) : Rat) = 0) ↔ r = 0 := by
  constructor
  ·intro e
   have : ((r : Int) : Rat) = 0 := by grind
   have : (r : Int) = 0 := by exact_mod_cast this
   omega
  ·rintro rfl
   have : (((0 : Nat) : Int) : Rat) = 0 := rfl; rw [this]; grind
 have ev : (⟨q, r, d⟩ : Fr).val = (q : Rat) + ((r : Int) : Rat) / ((d : Int) : Rat) := by unfold Fr.val; push_cast; rfl
 rw [ev]; generalize ((r : Int) : Rat) / ((d : Int) : Rat) = e at *; simp only [orL]; rcases Int.lt_trichotomy q n with hq | hq | hq
 ·have c1 : cmpI' q n = -1 := by unfold cmpI'; rw [if_pos hq]
  have hqn : (q : Rat) + 1 <= n := by exact_mod_cast (by omega : q + 1 <= n)
  rw [c1, if_pos (by decide)]
  constructor
  ·constructor
   ·intro h; omega
   ·intro h; grind
  ·constructor
   ·intro _; grind
   ·intro _; omega
 ·subst hq
  have c1 : cmpI' q q = 0 := by unfold cmpI'; rw [if_neg (by omega), if_neg (by omega)]
  rw [c1, if_neg (by decide)]
  by_cases h0 : r = 0
  ·have e0 := hz.2 h0
   have c2 : cmpI' (r : Int) 0 = 0 := by rw [h0]; rfl
   rw [c2, if_neg (by decide)]
   constructor
   ·constructor
    ·intro _; grind
    ·intro _; omega
   ·constructor
    ·intro _; grind
    ·intro _; omega
  ·have e0 : e ≠ 0 := fun h => h0 (hz.1 h)
   have c2 : cmpI' (r : Int) 0 = 1 := by unfold cmpI'; rw [if_neg (by omega), if_pos (by omega)]
   rw [c2, if_pos (by decide)]
   constructor
   ·constructor
    ·intro _; grind
    ·intro _; omega
   ·constructor
    ·intro h; omega
    ·intro h; grind
 ·have c1 : cmpI' q n = 1 := by unfold cmpI'; rw [if_neg (by omega), if_pos (by omega)]
  have hqn : (n : Rat) + 1 <= q := by exact_mod_cast (by omega : n + 1 <= q)
  rw [c1, if_pos (by decide)]
  constructor
  ·constructor
   ·intro _; grind
   ·intro _; omega
  ·constructor
   ·intro h; omega
   ·intro h; grind
theorem has_val {h : Hf} {s : Spot} (hs : s.rt) : h.has s = if h.up = true then inQ s.pq.turn.x h.c h.ab else inQ s.pq.x h.c h.ab := by
 obtain ⟨x1, x2⟩ := fcmp_val hs.1 h.c; obtain ⟨y1, y2⟩ := fcmp_val hs.2 h.c; unfold Hf.has inQ Spot.pq PtQ.turn; dsimp only
 cases h.up <;> cases h.ab <;> simp only [Bool.false_eq_true, if_true, if_false, x1, x2, y1, y2]
theorem inQ_ne {x y : Rat} {c : Int} {ab : Bool} (h : inQ x c ab ≠ inQ y c ab) : x ≠ y /\ ((x <= c /\ (c : Rat) <= y) ∨ (y <= c /\ (c : Rat) <= x)) := by
 refine ⟨fun e => h (by rw [e]), ?_⟩; unfold inQ at h
 cases ab with
 | true =>
  simp only [if_true] at h
  by_cases h1 : (c : Rat) <= x <;> by_cases h2 : (c : Rat) <= y <;> simp [h1, h2] at h <;> grind
 | false =>
  simp only [Bool.false_eq_true, if_false] at h
  by_cases h1 : x <= (c : Rat) <;> by_cases h2 : y <= (c : Rat) <;> simp [h1, h2] at h <;> grind
theorem cross_line {p q : Pt} {c : Int} {ab : Bool} {t u : Rat} (hp : p.far = false) (hq : q.far = false) (t0 : 0 <= t) (t1 : t <= 1) (u0 : 0 <= u) (u1 : u <= 1) (h : inQ (onQ p q t).x c ab ≠ inQ (onQ p q u).x c ab) :
  noneB p q c = false /\ (crossF p q c).right = true /\ crossQ (onQ p q t) (onQ p q u) c = ⟨(c : Rat), (crossF p q c).val⟩ := by
 obtain ⟨hne, hb⟩ := inQ_ne h; unfold onQ at hne hb; dsimp only at hne hb; have hd : ((q.x - p.x : Int) : Rat) ≠ 0 := fun e => hne (by rw [e]; grind)
 have hbt : ((p.x : Rat) <= c /\ (c : Rat) <= q.x) ∨ ((q.x : Rat) <= c /\ (c : Rat) <= p.x) := by
  push_cast at hb hd
  by_cases hs : (p.x : Rat) <= q.x
  ·left
   have a1 : 0 <= ((q.x : Rat) - p.x) * t := Rat.mul_nonneg (by grind) t0; have a2 : 0 <= ((q.x : Rat) - p.x) * u := Rat.mul_nonneg (by grind) u0; have a3 : 0 <= ((q.x : Rat) - p.x) * (1 - t) := Rat.mul_nonneg (by grind) (by grind); have a4 : 0 <= ((q.x : Rat) - p.x) * (1 - u) := Rat.mul_nonneg (by grind) (by grind)
   constructor <;> grind
  ·right
   have a1 : 0 <= ((p.x : Rat) - q.x) * t := Rat.mul_nonneg (by grind) t0; have a2 : 0 <= ((p.x : Rat) - q.x) * u := Rat.mul_nonneg (by grind) u0; have a3 : 0 <= ((p.x : Rat) - q.x) * (1 - t) := Rat.mul_nonneg (by grind) (by grind); have a4 : 0 <= ((p.x : Rat) - q.x) * (1 - u) := Rat.mul_nonneg (by grind) (by grind)
   constructor <;> grind
 have hbi : (p.x <= c /\ c <= q.x) ∨ (q.x <= c /\ c <= p.x) := by
  rcases hbt with ⟨h1, h2⟩ | ⟨h1, h2⟩
  ·exact .inl ⟨by exact_mod_cast h1, by exact_mod_cast h2⟩
  ·exact .inr ⟨by exact_mod_cast h1, by exact_mod_cast h2⟩
 have hx : p.x ≠ q.x := by
  intro e; apply hd; rw [e]; simp
 have hn : noneB p q c = false := by
  unfold noneB; simp only [Bool.or_eq_false_iff, decide_eq_false_iff_not]; omega
 refine ⟨hn, (cross_is hp hq hn).1, ?_⟩; rw [crossF_val hp hq hn]; unfold crossQ onQ; rw [PtQ.mk.injEq]; refine ⟨rfl, ?_⟩; dsimp only; have hut0 : u - t = 0 -> u = t := by intro e; grind
 have hut : u - t ≠ 0 := fun e => hne (by rw [hut0 e])
 push_cast at hd ⊢
 grind
def crossU (h : Hf) (a b : PtQ) : PtQ := if h.up = true then (crossQ a.turn b.turn h.c).turn else crossQ a b h.c
structure NI (n m : Node) : Prop where
 rt : n.s.rt
 flat : n.pl = true -> n.s.pq.x = m.s.pq.x ∨ n.s.pq.y = m.s.pq.y
 on : n.pl = false -> n.p.far = false /\ n.q.far = false /\ ∃ t u : Rat, 0 <= t /\ t <= 1 /\ 0 <= u /\ u <= 1 /\ n.s.pq = onQ n.p n.q t /\ m.s.pq = onQ n.p n.q u
theorem onQ_swap (p q : Pt) (t : Rat) : onQ p.swap q.swap t = (onQ p q t).turn := rfl
theorem crossQ_flat {a b : PtQ} {c : Int} (h : a.y = b.y) : crossQ a b c = ⟨(c : Rat), a.y⟩ := by
 unfold crossQ; rw [PtQ.mk.injEq]; exact ⟨rfl, by rw [h]; grind⟩
theorem cross_node {h : Hf} {n m : Node} (hn : NI n m) (hc : inw h.c = true) (hm : m.s.rt) (hne : h.has n.s ≠ h.has m.s) : (h.cross n).rt /\ (h.cross n).pq = crossU h n.s.pq m.s.pq := by
 rw [has_val hn.rt, has_val hm] at hne; obtain ⟨c, up, ab⟩ := h; unfold Hf.cross crossU; dsimp only at *
 cases up with
 | false =>
  simp only [Bool.false_eq_true, if_false] at hne ⊢
  cases hp : n.pl with
  | true =>
   rw [if_pos rfl]; have hy : n.s.pq.y = m.s.pq.y := (hn.flat hp).resolve_left (inQ_ne hne).1; exact ⟨⟨whole_right hc, hn.rt.2⟩, by rw [crossQ_flat hy]; unfold Spot.pq; dsimp only; rw [whole_val]⟩
  | false =>
   rw [if_neg (by decide)]; obtain ⟨fp, fq, t, u, t0, t1, u0, u1, e1, e2⟩ := hn.on hp; rw [e1, e2] at hne ⊢; obtain ⟨k1, k2, k3⟩ := cross_line fp fq t0 t1 u0 u1 hne
   have ec : (crossS n.p n.q c false).1 = crossF n.p n.q c := by
    unfold crossS crossC; rw [fp, fq, hc, k1]; rfl
   rw [ec, k3]; exact ⟨⟨whole_right hc, k2⟩, by unfold Spot.pq; dsimp only; rw [whole_val]⟩
 | true =>
  simp only [if_true] at hne ⊢
  cases hp : n.pl with
  | true =>
   rw [if_pos rfl]; have hx : n.s.pq.turn.y = m.s.pq.turn.y := (hn.flat hp).resolve_right (inQ_ne hne).1; exact ⟨⟨hn.rt.1, whole_right hc⟩, by rw [crossQ_flat hx]; unfold Spot.pq PtQ.turn; dsimp only; rw [whole_val]⟩
  | false =>
   rw [if_neg (by decide)]; obtain ⟨fp, fq, t, u, t0, t1, u0, u1, e1, e2⟩ := hn.on hp; rw [e1, e2, <- onQ_swap, <- onQ_swap] at hne; rw [e1, e2, <- onQ_swap, <- onQ_swap]; obtain ⟨k1, k2, k3⟩ := cross_line (by rw [Pt.swap_far]; exact fp) (by rw [Pt.swap_far]; exact fq) t0 t1 u0 u1 hne
   have ec : (crossS n.p n.q c true).1 = crossF n.p.swap n.q.swap c := by
    unfold crossS crossC; rw [fp, fq, hc, k1]; rfl
   rw [ec, k3]; exact ⟨⟨k2, whole_right hc⟩, by unfold Spot.pq PtQ.turn; dsimp only; rw [whole_val]⟩
end Go.Proofs.YteeeeddeacepmaaGreatDoor
namespace Go.Proofs.YteeeeddeacepmaaGreatDoor
set_option maxRecDepth 100000
open Go.RowKit B
def Pth {α : Type} (R : α -> α -> Prop) : α -> List α -> α -> Prop
 | a, [], b => R a b
 | a, x :: l, b => R a x /\ Pth R x l b
theorem Pth.app {α : Type} {R : α -> α -> Prop} : ∀ {a : α} {l : List α} {x : α} {m : List α} {b : α}, Pth R a (l ++ x :: m) b ↔ Pth R a l x /\ Pth R x m b
 | a, [], x, m, b => Iff.rfl
 | a, y :: l, x, m, b => by
  show R a y /\ Pth R y (l ++ x :: m) b ↔ (R a y /\ Pth R y l x) /\ Pth R x m b; rw [Pth.app, and_assoc]
def CycR {α : Type} (R : α -> α -> Prop) : List α -> Prop
 | [] => True
 | a :: l => Pth R a l a
theorem CycR.rot {α : Type} {R : α -> α -> Prop} {a b : List α} (h : IsRot a b) (ha : CycR R a) : CycR R b := by
 obtain ⟨u, v, rfl, rfl⟩ := h
 cases u with
 | nil => rwa [List.append_nil]
 | cons x u =>
  cases v with
  | nil => rwa [List.nil_append, <- List.append_nil (x :: u)]
  | cons y v =>
   have h1 : Pth R x (u ++ y :: v) x := ha; show Pth R y (v ++ x :: u) y; rw [Pth.app] at h1 ⊢; exact ⟨h1.2, h1.1⟩
theorem CycR.mem {α : Type} {R : α -> α -> Prop} {P : α -> Prop} (hp : ∀ a b, R a b -> P a) {l : List α} (h : CycR R l) : ∀ x ∈ l, P x := by
 have key : ∀ (l : List α) (a b : α), Pth R a l b -> ∀ x ∈ a :: l, P x := by
  intro l
  induction l with
  | nil => intro a b h x hx; rw [List.mem_singleton.1 hx]; exact hp _ _ h
  | cons y l ih =>
   intro a b h x hx; rcases List.mem_cons.1 hx with rfl | hx
   ·exact hp _ _ h.1
   ·exact ih y b h.2 x hx
 cases l with
 | nil => intro x hx; simp at hx
 | cons a l => exact key l a a h
def emi {α β : Type} (f : α -> α -> List β) : α -> List α -> α -> List β
 | a, [], b => f a b
 | a, x :: l, b => f a x ++ emi f x l b
theorem emi_range {α β : Type} (f : α -> α -> List β) (b : α) : ∀ (l : List α) (a : α), (List.range (l.length + 1)).flatMap (fun i => match (a :: (l ++ [b]))[i]?, (a :: (l ++ [b]))[i + 1]? with | some n, some m => f n m | _, _ => []) = emi f a l b := by
 intro l
 induction l with
 | nil => intro a; simp [emi]
 | cons x l ih =>
  intro a; rw [List.range_succ_eq_map, List.flatMap_cons, List.flatMap_map, List.length_cons]; show f a x ++ _ = f a x ++ _; congr 1
  exact ih x
theorem cyc_emi {α β : Type} (f : α -> α -> List β) (a : α) (l : List α) : cycTo f (a :: l) (a :: l).length = emi f a l a := by
 rw [<- emi_range]; unfold cycTo; rw [List.length_cons]; refine flat_congr _ fun i hi => ?_
 unfold cycAt
 have e1 : (a :: (l ++ [a]))[i]? = (a :: l)[i]? := by
  rw [show a :: (l ++ [a]) = (a :: l) ++ [a] from rfl, List.getElem?_append_left (by simpa using hi)]
 have e2 : (a :: (l ++ [a]))[i + 1]? = (a :: l)[(i + 1) % (a :: l).length]? := by
  rw [List.length_cons]
  by_cases h : i + 1 < l.length + 1
  ·rw [Nat.mod_eq_of_lt h, show a :: (l ++ [a]) = (a :: l) ++ [a] from rfl, List.getElem?_append_left (by simpa using h)]
  ·obtain rfl : i = l.length := by omega
   rw [Nat.mod_self, show a :: (l ++ [a]) = (a :: l) ++ [a] from rfl, List.getElem?_append_right (by simp)]; simp
 rw [e1, e2]; generalize (a :: l)[i]? = o1; generalize (a :: l)[(i + 1) % (a :: l).length]? = o2
 cases o1 <;> cases o2 <;> rfl
theorem emi_map {α β γ δ : Type} {R : α -> α -> Prop} (f : α -> α -> List β) (g : γ -> γ -> List δ) (p : α -> γ) (q : β -> δ) (h : ∀ a b, R a b -> (f a b).map q = g (p a) (p b)) : ∀ (l : List α) (a b : α), Pth R a l b -> (emi f a l b).map q = emi g (p a) (l.map p) (p b) := by
 intro l
 induction l with
 | nil => intro a b hr; exact h a b hr
 | cons x l ih =>
  intro a b hr; show (f a x ++ emi f x l b).map q = g (p a) (p x) ++ emi g (p x) (l.map p) (p b); rw [List.map_append, h a x hr.1, ih x b hr.2]
def NJ (n m : Node) : Prop := NI n m /\ m.s.rt
theorem clip1_q {h : Hf} (hc : inw h.c = true) {n m : Node} (hj : NJ n m) : (h.clip1 n m).map (fun n => n.s.pq) = half1Q h.c h.up h.ab n.s.pq m.s.pq := by
 have hx := fun hne => (cross_node hj.1 hc hj.2 hne).2
 rw [has_val hj.1.rt, has_val hj.2] at hx; unfold Hf.clip1 half1Q crossU at *; rw [has_val hj.1.rt, has_val hj.2]
 cases hu : h.up with
 | false =>
  simp only [hu, Bool.false_eq_true, if_false] at hx ⊢; generalize inQ n.s.pq.x h.c h.ab = b1 at *; generalize inQ m.s.pq.x h.c h.ab = b2 at *
  cases b1 <;> cases b2 <;> simp_all
 | true =>
  simp only [hu, if_true] at hx ⊢; generalize inQ n.s.pq.turn.x h.c h.ab = b1 at *; generalize inQ m.s.pq.turn.x h.c h.ab = b2 at *; have ht : n.s.pq.turn.turn = n.s.pq := rfl
  cases b1 <;> cases b2 <;> simp_all
theorem clip_q {h : Hf} (hc : inw h.c = true) {l : List Node} (hl : CycR NJ l) : (h.clip l).map (fun n => n.s.pq) = halfQ h.c h.up h.ab (l.map (fun n => n.s.pq)) := by
 unfold Hf.clip halfQ
 cases l with
 | nil => rfl
 | cons a l =>
  rw [cyc_emi, List.map_cons, cyc_emi]; exact emi_map (R := NJ) h.clip1 (half1Q h.c h.up h.ab) (fun n => n.s.pq) (fun n => n.s.pq) (fun a b hr => clip1_q hc hr) l a a hl
theorem cross_on {c : Int} {ab : Bool} {p q : Pt} {t u : Rat} (t0 : 0 <= t) (t1 : t <= 1) (u0 : 0 <= u) (u1 : u <= 1) (h : inQ (onQ p q t).x c ab ≠ inQ (onQ p q u).x c ab) : ∃ v : Rat, 0 <= v /\ v <= 1 /\ crossQ (onQ p q t) (onQ p q u) c = onQ p q v := by
 obtain ⟨hne, hb⟩ := inQ_ne h; generalize hx : (onQ p q t).x = X at hne hb; generalize hy : (onQ p q u).x = Y at hne hb; have hd : Y - X ≠ 0 := fun e => hne (by grind)
 have hs : ∃ s, (c : Rat) = X + s * (Y - X) /\ ((c : Rat) - X) / (Y - X) = s := ⟨((c : Rat) - X) / (Y - X), by grind, rfl⟩
 obtain ⟨s, hs, hs'⟩ := hs
 have s0 : 0 <= s := by
  rw [<- Rat.not_lt]; intro hn
  rcases hb with ⟨h1, h2⟩ | ⟨h1, h2⟩
  ·have := Rat.mul_pos (show 0 < -s by grind) (show 0 < Y - X by grind)
   grind
  ·have := Rat.mul_pos (show 0 < -s by grind) (show 0 < X - Y by grind)
   grind
 have s1 : s <= 1 := by
  rw [<- Rat.not_lt]; intro hn
  rcases hb with ⟨h1, h2⟩ | ⟨h1, h2⟩
  ·have := Rat.mul_pos (show 0 < s - 1 by grind) (show 0 < Y - X by grind)
   grind
  ·have := Rat.mul_pos (show 0 < s - 1 by grind) (show 0 < X - Y by grind)
   grind
 refine ⟨t + s * (u - t), ?_, ?_, ?_⟩
 ·have a1 := Rat.mul_nonneg s0 u0
  have a2 := Rat.mul_nonneg (show 0 <= 1 - s by grind) t0; grind
 ·have a1 := Rat.mul_nonneg s0 (show 0 <= 1 - u by grind)
  have a2 := Rat.mul_nonneg (show 0 <= 1 - s by grind) (show 0 <= 1 - t by grind); grind
 ·unfold crossQ
  rw [hx, hy, hs']; unfold onQ at hx hy ⊢; dsimp only at hx hy ⊢; rw [PtQ.mk.injEq]
  constructor <;> grind
theorem crossU_on {h : Hf} {p q : Pt} {t u : Rat} (t0 : 0 <= t) (t1 : t <= 1) (u0 : 0 <= u) (u1 : u <= 1) (hne : (if h.up = true then inQ (onQ p q t).turn.x h.c h.ab else inQ (onQ p q t).x h.c h.ab) ≠ if h.up = true then inQ (onQ p q u).turn.x h.c h.ab else inQ (onQ p q u).x h.c h.ab) :
  ∃ v : Rat, 0 <= v /\ v <= 1 /\ crossU h (onQ p q t) (onQ p q u) = onQ p q v := by
 unfold crossU
 cases hu : h.up with
 | false =>
  simp only [hu, Bool.false_eq_true, if_false] at hne ⊢; exact cross_on t0 t1 u0 u1 hne
 | true =>
  simp only [hu, if_true] at hne ⊢; rw [<- onQ_swap, <- onQ_swap] at hne ⊢; obtain ⟨v, v0, v1, hv⟩ := cross_on t0 t1 u0 u1 hne; exact ⟨v, v0, v1, by rw [hv]; rfl⟩
def OnB (h : Hf) (s : Spot) : Prop := if h.up = true then s.pq.y = (h.c : Rat) else s.pq.x = (h.c : Rat)
theorem crossU_b {h : Hf} {s : Spot} {a b : PtQ} (e : s.pq = crossU h a b) : OnB h s := by
 unfold OnB; rw [e]; unfold crossU
 cases h.up <;> rfl
theorem NI.b2 {h : Hf} {z m : Node} (hz : z.s.rt) (hp : z.pl = true) (h1 : OnB h z.s) (h2 : OnB h m.s) : NI z m := by
 refine ⟨hz, fun _ => ?_, fun h => by rw [hp] at h; simp at h⟩; unfold OnB at h1 h2
 cases hu : h.up with
 | false => simp only [hu, Bool.false_eq_true, if_false] at h1 h2; left; rw [h1, h2]
 | true => simp only [hu, if_true] at h1 h2; right; rw [h1, h2]
theorem cross_keeps {h : Hf} {n m : Node} (hn : NI n m) (hc : inw h.c = true) (hm : m.s.rt) (hne : h.has n.s ≠ h.has m.s) : (h.cross n).rt /\ OnB h (h.cross n) /\ (∀ k : Node, k.s = h.cross n -> NI n k) /\ NI ⟨h.cross n, n.p, n.q, n.pl⟩ m := by
 obtain ⟨c1, c2⟩ := cross_node hn hc hm hne; have hv := hne; rw [has_val hn.rt, has_val hm] at hv; have hne' : ∀ a b : PtQ, a = n.s.pq -> b = m.s.pq -> (if h.up = true then inQ a.turn.x h.c h.ab else inQ a.x h.c h.ab) ≠ if h.up = true then inQ b.turn.x h.c h.ab else inQ b.x h.c h.ab := by rintro _ _ rfl rfl; exact hv
 have hflat : n.pl = true -> (h.up = false -> n.s.pq.y = m.s.pq.y /\ (h.cross n).pq.y = n.s.pq.y) /\ (h.up = true -> n.s.pq.x = m.s.pq.x /\ (h.cross n).pq.x = n.s.pq.x) := by
  intro hp
  constructor
  ·intro hu
   simp only [hu, Bool.false_eq_true, if_false] at hv; have hy := (hn.flat hp).resolve_left (inQ_ne hv).1; refine ⟨hy, ?_⟩; rw [c2]; unfold crossU; rw [if_neg (by rw [hu]; decide), crossQ_flat hy]
  ·intro hu
   simp only [hu, if_true] at hv; have hx : n.s.pq.turn.y = m.s.pq.turn.y := (hn.flat hp).resolve_right (inQ_ne hv).1; refine ⟨hx, ?_⟩; rw [c2]; unfold crossU; rw [if_pos hu, crossQ_flat hx]; rfl
 have hon : n.pl = false -> n.p.far = false /\ n.q.far = false /\ ∃ t u v : Rat, 0 <= t /\ t <= 1 /\ 0 <= u /\ u <= 1 /\ 0 <= v /\ v <= 1 /\ n.s.pq = onQ n.p n.q t /\ m.s.pq = onQ n.p n.q u /\ (h.cross n).pq = onQ n.p n.q v := by
  intro hp; obtain ⟨f1, f2, t, u, t0, t1, u0, u1, e1, e2⟩ := hn.on hp; obtain ⟨v, v0, v1, e3⟩ := crossU_on t0 t1 u0 u1 (hne' _ _ e1.symm e2.symm); exact ⟨f1, f2, t, u, v, t0, t1, u0, u1, v0, v1, e1, e2, by rw [c2, e1, e2, e3]⟩
 refine ⟨c1, crossU_b c2, fun k hk => ⟨hn.rt, fun hp => ?_, fun hp => ?_⟩, ⟨c1, fun hp => ?_, fun hp => ?_⟩⟩
 ·rw [hk]
  obtain ⟨g1, g2⟩ := hflat hp
  cases hu : h.up with
  | false => right; exact (g1 hu).2.symm
  | true => left; exact (g2 hu).2.symm
 ·obtain ⟨f1, f2, t, u, v, t0, t1, -, -, v0, v1, e1, -, e3⟩ := hon hp
  exact ⟨f1, f2, t, v, t0, t1, v0, v1, e1, by rw [hk, e3]⟩
 ·obtain ⟨g1, g2⟩ := hflat hp
  cases hu : h.up with
  | false => right; exact (g1 hu).2.trans (g1 hu).1
  | true => left; exact (g2 hu).2.trans (g2 hu).1
 ·obtain ⟨f1, f2, t, u, v, -, -, u0, u1, v0, v1, -, e2, e3⟩ := hon hp
  exact ⟨f1, f2, v, u, v0, v1, u0, u1, e3, e2⟩
theorem clip_pth {h : Hf} (hc : inw h.c = true) (b : Node) (hb : h.has b.s = true) : ∀ (l : List Node) (a : Node), Pth NJ a l b ->
  (h.has a.s = true -> ∃ rest, emi h.clip1 a l b = a :: rest /\ Pth NJ a rest b) /\ (h.has a.s = false -> ∀ z : Node, z.s.rt -> z.pl = true -> OnB h z.s -> Pth NJ z (emi h.clip1 a l b) b) := by
 intro l
 induction l with
 | nil =>
  intro a hp; have hp : NJ a b := hp; refine ⟨fun ha => ⟨[], ?_, hp⟩, fun ha z hz hzp hzb => ?_⟩
  ·show h.clip1 a b = _
   unfold Hf.clip1; rw [ha, hb]; rfl
  ·obtain ⟨k1, k2, -, k4⟩ := cross_keeps hp.1 hc hp.2 (by rw [ha, hb]; decide)
   have e : emi h.clip1 a [] b = [⟨h.cross a, a.p, a.q, a.pl⟩] := by
    show h.clip1 a b = _; unfold Hf.clip1; rw [ha, hb]; rfl
   rw [e]; exact ⟨⟨NI.b2 hz hzp hzb k2, k1⟩, k4, hp.2⟩
 | cons x l ih =>
  intro a hp; obtain ⟨hp, hp'⟩ : NJ a x /\ Pth NJ x l b := hp; obtain ⟨i1, i2⟩ := ih x hp'
  cases hx : h.has x.s with
  | true =>
   obtain ⟨rest, hr, hrp⟩ := i1 hx; refine ⟨fun ha => ⟨x :: rest, ?_, hp, hrp⟩, fun ha z hz hzp hzb => ?_⟩
   ·show h.clip1 a x ++ emi h.clip1 x l b = _
    rw [hr]; unfold Hf.clip1; rw [ha, hx]; rfl
   ·obtain ⟨k1, k2, -, k4⟩ := cross_keeps hp.1 hc hp.2 (by rw [ha, hx]; decide)
    have e : emi h.clip1 a (x :: l) b = ⟨h.cross a, a.p, a.q, a.pl⟩ :: x :: rest := by
     show h.clip1 a x ++ emi h.clip1 x l b = _; rw [hr]; unfold Hf.clip1; rw [ha, hx]; rfl
    rw [e]; exact ⟨⟨NI.b2 hz hzp hzb k2, k1⟩, ⟨k4, hp.2⟩, hrp⟩
  | false =>
   refine ⟨fun ha => ?_, fun ha z hz hzp hzb => ?_⟩
   ·obtain ⟨k1, k2, k3, -⟩ := cross_keeps hp.1 hc hp.2 (by rw [ha, hx]; decide)
    refine ⟨⟨h.cross a, ⟨0, 0⟩, ⟨0, 0⟩, true⟩ :: emi h.clip1 x l b, ?_, ⟨k3 _ rfl, k1⟩, i2 hx _ k1 rfl k2⟩; show h.clip1 a x ++ emi h.clip1 x l b = _; unfold Hf.clip1; rw [ha, hx]; rfl
   ·have e : emi h.clip1 a (x :: l) b = emi h.clip1 x l b := by
     show h.clip1 a x ++ emi h.clip1 x l b = _; unfold Hf.clip1; rw [ha, hx]; rfl
    rw [e]; exact i2 hx z hz hzp hzb
theorem clip_cyc {h : Hf} (hc : inw h.c = true) {l : List Node} (hl : CycR NJ l) : CycR NJ (h.clip l) := by
 by_cases hin : ∃ n ∈ l, h.has n.s = true
 ·obtain ⟨n, hn, hh⟩ := hin
  obtain ⟨u, v, rfl⟩ := List.append_of_mem hn
  have hr : IsRot (u ++ n :: v) (n :: (v ++ u)) := ⟨u, n :: v, rfl, rfl⟩
  have hl' := hl.rot hr; obtain ⟨rest, he, hp⟩ := (clip_pth hc n hh (v ++ u) n hl').1 hh; have hE : CycR NJ (cycTo h.clip1 (n :: (v ++ u)) (n :: (v ++ u)).length) := by rw [cyc_emi, he]; exact hp
  exact hE.rot (cyc_rot h.clip1 (show IsRot (n :: (v ++ u)) (u ++ n :: v) from ⟨n :: v, u, rfl, rfl⟩))
 ·have : h.clip l = [] := by
   rw [List.eq_nil_iff_forall_not_mem]; intro x hx; obtain ⟨a, ha, b, hb, hx⟩ := mem_cyc hx; have h1 : h.has a.s = false := by cases h' : h.has a.s; rfl; exact absurd ⟨a, ha, h'⟩ hin
   have h2 : h.has b.s = false := by cases h' : h.has b.s; rfl; exact absurd ⟨b, hb, h'⟩ hin
   unfold Hf.clip1 at hx; rw [h1, h2] at hx; simp at hx
  rw [this]; trivial
theorem whole_pq (p : Pt) : (wholeSpot p).pq = p.pq := by
 unfold wholeSpot Spot.pq Pt.pq; dsimp only; rw [whole_val, whole_val]
theorem not_far {p : Pt} (h : inw p.x = true /\ inw p.y = true) : p.far = false := by unfold Pt.far; rw [h.1, h.2]; rfl
theorem start_ni {p q : Pt} (hp : inw p.x = true /\ inw p.y = true) (hq : inw q.x = true /\ inw q.y = true) {e : Node} (he : e.s = wholeSpot q) : NJ ⟨wholeSpot p, p, q, false⟩ e :=
 ⟨⟨⟨whole_right hp.1, whole_right hp.2⟩, fun h => by simp at h, fun _ => ⟨not_far hp, not_far hq, 0, 1, by decide, by decide, by decide, by decide, by rw [onQ_0]; exact whole_pq p, by rw [onQ_1, he, whole_pq]⟩⟩, by rw [he]; exact ⟨whole_right hq.1, whole_right hq.2⟩⟩
theorem start_pth (b : Pt) (hb : inw b.x = true /\ inw b.y = true) : ∀ (l : List Pt) (a : Pt), (∀ p ∈ a :: l, inw p.x = true /\ inw p.y = true) -> ∀ e : Node, e.s = wholeSpot b -> ∃ n rest, emi stN a l b = n :: rest /\ n.s = wholeSpot a /\ Pth NJ n rest e := by
 intro l
 induction l with
 | nil => intro a ha e he; exact ⟨_, [], rfl, rfl, start_ni (ha a (by simp)) hb he⟩
 | cons x l ih =>
  intro a ha e he; obtain ⟨n', rest, h1, h2, h3⟩ := ih x (fun p hp => ha p (by simp at hp ⊢; exact .inr hp)) e he; refine ⟨⟨wholeSpot a, a, x, false⟩, n' :: rest, ?_, rfl, start_ni (ha a (by simp)) (ha x (by simp)) h2, h3⟩; show stN a x ++ emi stN x l b = _; rw [h1]; rfl
theorem start_cyc {l : List Pt} (hl : ∀ p ∈ l, inw p.x = true /\ inw p.y = true) : CycR NJ (cycTo stN l l.length) := by
 cases l with
 | nil => trivial
 | cons a l =>
  rw [cyc_emi]; obtain ⟨n, rest, h1, h2, -⟩ := start_pth a (hl a (by simp)) l a hl ⟨wholeSpot a, a, a, false⟩ rfl; obtain ⟨n', rest', h1', h2', h3'⟩ := start_pth a (hl a (by simp)) l a hl n h2; rw [h1] at h1'; injection h1' with e1 e2
  subst e1 e2; rw [h1]; exact h3'
theorem fr_ok25 {f : Fr} (h : f.right = true) : f.ok := by
 obtain ⟨h1, h2, h3, h4, -⟩ := Fr.right_iff h; exact ⟨by omega, by omega, by omega, by omega⟩
theorem rt_ok25 {s : Spot} (h : s.rt) : s.ok := ⟨fr_ok25 h.1, fr_ok25 h.2⟩
theorem ring_law {l : List Pt} {lo hi : Int} (he : lineE l lo hi = 0) : (ringS l lo hi).map Spot.pq = clip25Q l lo hi /\ ∀ s ∈ ringS l lo hi, s.rt := by
 obtain ⟨-, hlo, hhi, hf⟩ := lineE_far he; have c0 := start_cyc hf
 have e0 : (cycTo stN l l.length).map (fun n => n.s.pq) = l.map Pt.pq := by
  have := congrArg (List.map Spot.pq) (cyc_st l l.length (Nat.le_refl _)); rw [List.take_length, List.map_map, List.map_map] at this; refine Eq.trans this (List.map_congr_left fun p _ => whole_pq p)
 have ht : (halves lo hi).take 4 = [⟨lo, false, true⟩, ⟨hi, false, false⟩, ⟨lo, true, true⟩, ⟨hi, true, false⟩] := rfl; unfold ringS ringTo clip25Q; rw [ht, List.foldl_cons, List.foldl_cons, List.foldl_cons, List.foldl_cons, List.foldl_nil]; generalize cycTo stN l l.length = n0 at *; have c1 := clip_cyc (h := ⟨lo, false, true⟩) hlo c0; have e1 := clip_q (h := ⟨lo, false, true⟩) hlo c0; have c2 := clip_cyc (h := ⟨hi, false, false⟩) hhi c1; have e2 := clip_q (h := ⟨hi, false, false⟩) hhi c1; have c3 := clip_cyc (h := ⟨lo, true, true⟩) hlo c2; have e3 := clip_q (h := ⟨lo, true, true⟩) hlo c2
 have c4 := clip_cyc (h := ⟨hi, true, false⟩) hhi c3; have e4 := clip_q (h := ⟨hi, true, false⟩) hhi c3; dsimp only at e1 e2 e3 e4; rw [e0] at e1; rw [e1] at e2; rw [e2] at e3; rw [e3] at e4; generalize (⟨hi, true, false⟩ : Hf).clip _ = n4 at *
 constructor
 ·rw [List.map_map]
  exact e4
 ·intro s hs
  obtain ⟨n, hn, rfl⟩ := List.mem_map.1 hs; exact c4.mem (P := fun n => n.s.rt) (fun a b h => h.1.rt) n hn
end Go.Proofs.YteeeeddeacepmaaGreatDoor
