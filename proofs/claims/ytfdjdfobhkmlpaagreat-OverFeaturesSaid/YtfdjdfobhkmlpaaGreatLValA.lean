import Derived.Test.YtfdjdfobhkmlpaaGreatLnA
import Derived.Test.YtfdjdfobhkmlpaaGreatRLa
namespace Go.Proofs.YtfdjdfobhkmlpaaGreat
set_option maxRecDepth 100000
open Go.RowKit B
structure PtQ where
 x : Rat
 y : Rat
def Spot.pq (s : Spot) : PtQ := ⟨s.x.val, s.y.val⟩
def Spot.rt (s : Spot) : Prop := s.x.right = true /\ s.y.right = true
def Pt.pq (p : Pt) : PtQ := ⟨(p.x : Rat), (p.y : Rat)⟩
def onQ (p q : Pt) (t : Rat) : PtQ := ⟨(p.x : Rat) + ((q.x - p.x : Int) : Rat) * t, (p.y : Rat) + ((q.y - p.y : Int) : Rat) * t⟩
def segQ (p q : Pt) (lo hi : Int) : PtQ × PtQ × Bool :=
 if segBad p q lo hi = true then (⟨0, 0⟩, ⟨0, 0⟩, false)
 else if (slabQ 0 1 p.x q.x lo hi).2.2 = false then (⟨0, 0⟩, ⟨0, 0⟩, false)
 else if (slabQ (slabQ 0 1 p.x q.x lo hi).1 (slabQ 0 1 p.x q.x lo hi).2.1 p.y q.y lo hi).2.2 = false then (⟨0, 0⟩, ⟨0, 0⟩, false)
 else (onQ p q (slabQ (slabQ 0 1 p.x q.x lo hi).1 (slabQ 0 1 p.x q.x lo hi).2.1 p.y q.y lo hi).1, onQ p q (slabQ (slabQ 0 1 p.x q.x lo hi).1 (slabQ 0 1 p.x q.x lo hi).2.1 p.y q.y lo hi).2.1, true)
def Wn.val (a : Wn) : Rat := (a.n : Rat) / (a.d : Rat)
theorem after_val {a b : Wn} (ha : 0 < a.d) (hb : 0 < b.d) : a.after b = decide (b.val < a.val) := by
 rw [Bool.eq_iff_iff, after_iff, decide_eq_true_eq]; unfold Wn.val; rw [div_lt_div_iff' (cast_pos hb) (cast_pos ha)]; have : ((b.n : Rat) * (a.d : Rat) < (a.n : Rat) * (b.d : Rat)) ↔ b.n * a.d < a.n * b.d := by exact_mod_cast Iff.rfl
 rw [this]; omega
theorem slabA_val {s t lo hi : Int} {up : Bool} (h : s ≠ t) : (slabA s t lo hi up).val = slabX s t lo hi /\ (slabB s t lo hi up).val = slabY s t lo hi := by
 unfold slabA slabB slabX slabY Wn.val; dsimp only; have h0 : ((t - s : Int) : Rat) ≠ 0 := by exact_mod_cast (show t - s ≠ 0 by omega)
 by_cases hc : t < s
 ·simp only [if_pos hc, show max (t - s) (s - t) = -(t - s) by omega]
  push_cast at h0 ⊢
  constructor <;> grind
 ·simp only [if_neg hc, show max (t - s) (s - t) = t - s by omega]
  push_cast at h0 ⊢
  constructor <;> grind
theorem slab_val {i0 i1 j0 j1 : Wn} {s t lo hi : Int} {up ok : Bool} (h0 : 0 < i0.d) (h1 : 0 < i1.d) (h : slabS i0 i1 s t lo hi up = (j0, j1, ok)) :
  slabQ i0.val i1.val s t lo hi = (j0.val, j1.val, ok) /\ 0 < j0.d /\ 0 < j1.d /\ (j0 = i0 ∨ j0.en = false) /\ (j1 = i1 ∨ j1.en = false) := by
 unfold slabS at h; unfold slabQ
 split at h
 ·rename_i he
  rw [if_pos he]; rw [Prod.mk.injEq, Prod.mk.injEq] at h; obtain ⟨rfl, rfl, rfl⟩ := h; exact ⟨rfl, h0, h1, .inl rfl, .inl rfl⟩
 ·rename_i hne
  rw [if_neg hne]; rw [Prod.mk.injEq, Prod.mk.injEq] at h; obtain ⟨e0, e1, e2⟩ := h; have hA : 0 < (slabA s t lo hi up).d := by show 0 < max _ _; omega
  have hB : 0 < (slabB s t lo hi up).d := by show 0 < max _ _; omega
  obtain ⟨vA, vB⟩ := slabA_val (lo := lo) (hi := hi) (up := up) hne; have enA : (slabA s t lo hi up).en = false := rfl; have enB : (slabB s t lo hi up).en = false := rfl; generalize slabA s t lo hi up = A at *; generalize slabB s t lo hi up = B at *; rw [<- vA, <- vB]
  have k0 : j0.val = (if i0.val < A.val then A.val else i0.val) /\ 0 < j0.d /\ (j0 = i0 ∨ j0.en = false) := by
   rw [<- e0]; unfold slab0; rw [after_val hA h0]
   by_cases hc : i0.val < A.val
   ·rw [if_pos (decide_eq_true hc), if_pos hc]; exact ⟨rfl, hA, .inr enA⟩
   ·rw [if_neg (by simpa using hc), if_neg hc]; exact ⟨rfl, h0, .inl rfl⟩
  have k1 : j1.val = (if B.val < i1.val then B.val else i1.val) /\ 0 < j1.d /\ (j1 = i1 ∨ j1.en = false) := by
   rw [<- e1]; unfold slab1; rw [after_val h1 hB]
   by_cases hc : B.val < i1.val
   ·rw [if_pos (decide_eq_true hc), if_pos hc]; exact ⟨rfl, hB, .inr enB⟩
   ·rw [if_neg (by simpa using hc), if_neg hc]; exact ⟨rfl, h1, .inl rfl⟩
  rw [<- k0.1, <- k1.1, <- e2, e0, e1, after_val k0.2.1 k1.2.1]; refine ⟨?_, k0.2.1, k1.2.1, k0.2.2, k1.2.2⟩; rw [<- decide_not, show decide (j0.val <= j1.val) = decide (¬ j1.val < j0.val) from decide_eq_decide.2 Rat.not_lt.symm]
theorem crossF_val {p q : Pt} {c : Int} (hp : p.far = false) (hq : q.far = false) (hn : noneB p q c = false) :
  (crossF p q c).val = (p.y : Rat) + ((c - p.x : Int) : Rat) * ((q.y - p.y : Int) : Rat) / ((q.x - p.x : Int) : Rat) := by
 obtain ⟨hr, hv⟩ := cross_is hp hq hn; obtain ⟨hx, -⟩ := noneB_false hn; generalize crossF p q c = f at *; obtain ⟨-, hd, -⟩ := Fr.right_iff hr; have hd' : (0 : Rat) < ((f.d : Int) : Rat) := cast_pos (by omega); have hq0 : ((q.x - p.x : Int) : Rat) ≠ 0 := by exact_mod_cast (show q.x - p.x ≠ 0 by omega)
 have hv' : (((f.q * f.d + f.r) * (crossD p q : Int) : Int) : Rat) = (((p.y * (crossD p q : Int) + crossX p q c) * f.d : Int) : Rat) := by exact_mod_cast hv
 unfold Fr.val; unfold crossX at hv'
 by_cases hc : q.x - p.x < 0
 ·have e : ((crossD p q : Nat) : Int) = -(q.x - p.x) := by unfold crossD; omega
  rw [if_pos hc, e] at hv'; push_cast at hv' hd' hq0 ⊢
  grind
 ·have e : ((crossD p q : Nat) : Int) = q.x - p.x := by unfold crossD; omega
  rw [if_neg hc, e] at hv'; push_cast at hv' hd' hq0 ⊢
  grind
theorem whole_right {n : Int} (h : inw n = true) : (⟨n, 0, 1⟩ : Fr).right = true := by
 simp only [inw, Bool.and_eq_true, decide_eq_true_eq] at h; simp [Fr.right, inw, h]
theorem whole_val (n : Int) : (⟨n, 0, 1⟩ : Fr).val = (n : Rat) := by
 unfold Fr.val; dsimp only; have : (((0 : Nat) : Rat)) = 0 := rfl; rw [this]; grind
theorem spotW_val {a : Wn} {p q e : Pt} {lo hi : Int} (h : WG p q lo hi a) (hp : p.far = false) (hq : q.far = false) (he : e.far = false) (hl : inw lo = true) (hh : inw hi = true) (hen : a.en = true -> onQ p q a.val = e.pq) :
  (spotW a p q e).pq = onQ p q a.val /\ (spotW a p q e).rt := by
 unfold spotW
 cases hc : a.en with
 | true =>
  rw [if_pos rfl, hen hc]; have := far_in he; exact ⟨by unfold Spot.pq Pt.pq; dsimp only; rw [whole_val, whole_val], whole_right this.1, whole_right this.2⟩
 | false =>
  rw [if_neg (by decide)]; have hr := h.frac hp hq hl hh hc; have hm := h.met hc; obtain ⟨hcw, hne, hd, hn⟩ := h.at_ hc
  have hv : a.val = ((a.c - co a.up p : Int) : Rat) / ((co a.up q - co a.up p : Int) : Rat) := by
   unfold Wn.val; have h0 : ((co a.up q - co a.up p : Int) : Rat) ≠ 0 := by exact_mod_cast (show co a.up q - co a.up p ≠ 0 by omega)
   rw [hd, hn]
   by_cases hlt : co a.up q < co a.up p
   ·rw [if_pos hlt, show max (co a.up q - co a.up p) (co a.up p - co a.up q) = -(co a.up q - co a.up p) by omega]
    push_cast at h0 ⊢
    grind
   ·rw [if_neg hlt, show max (co a.up q - co a.up p) (co a.up p - co a.up q) = co a.up q - co a.up p by omega]
    push_cast at h0 ⊢
    grind
  have hcs : (crossS p q a.c a.up).1 = if a.up = true then crossF p.swap q.swap a.c else crossF p q a.c := by
   unfold crossS crossC; rw [hp, hq, hr.1]; simp only [Bool.or_false, Bool.not_true, Bool.false_eq_true, if_false]
   cases hu : a.up with
   | true => rw [hu] at hm; simp only [if_true] at hm ⊢; rw [hm]; rfl
   | false => rw [hu] at hm; simp only [Bool.false_eq_true, if_false] at hm ⊢; rw [hm]; rfl
  cases hu : a.up with
  | true =>
   rw [hu] at hcs hv hne hm hr; simp only [if_true] at hcs hm ⊢; refine ⟨?_, hr.2, whole_right hr.1⟩; have hx := crossF_val (by rw [Pt.swap_far]; exact hp) (by rw [Pt.swap_far]; exact hq) hm; unfold Spot.pq onQ; dsimp only; rw [hcs, hx, whole_val, hv]; unfold co Pt.swap at *; simp only [if_true] at *; have h0 : ((q.y - p.y : Int) : Rat) ≠ 0 := by exact_mod_cast (show q.y - p.y ≠ 0 by omega)
   push_cast at h0 ⊢
   rw [PtQ.mk.injEq]
   constructor <;> grind
  | false =>
   rw [hu] at hcs hv hne hm hr; simp only [Bool.false_eq_true, if_false] at hcs hm ⊢; refine ⟨?_, whole_right hr.1, hr.2⟩; have hx := crossF_val hp hq hm; unfold Spot.pq onQ; dsimp only; rw [hcs, hx, whole_val, hv]; unfold co at *; simp only [Bool.false_eq_true, if_false] at *; have h0 : ((q.x - p.x : Int) : Rat) ≠ 0 := by exact_mod_cast (show q.x - p.x ≠ 0 by omega)
   push_cast at h0 ⊢
   rw [PtQ.mk.injEq]
   constructor <;> grind
theorem onQ_0 (p q : Pt) : onQ p q 0 = p.pq := by
 unfold onQ Pt.pq; rw [PtQ.mk.injEq]
 constructor <;> grind
theorem onQ_1 (p q : Pt) : onQ p q 1 = q.pq := by
 unfold onQ Pt.pq; rw [PtQ.mk.injEq]; push_cast
 constructor <;> grind
theorem seg_law {p q : Pt} {lo hi : Int} {a b : Spot} {ok : Bool} (h : segT p q lo hi = (a, b, ok)) :
  (segQ p q lo hi).2.2 = ok /\ (ok = true -> (segQ p q lo hi).1 = a.pq /\ (segQ p q lo hi).2.1 = b.pq /\ a.rt /\ b.rt) /\ (ok = false -> a = zeroSpot /\ b = zeroSpot) := by
 unfold segT at h; unfold segQ
 by_cases hb : segBad p q lo hi = true
 ·rw [if_pos hb] at h ⊢
  rw [Prod.mk.injEq, Prod.mk.injEq] at h; obtain ⟨rfl, rfl, rfl⟩ := h; exact ⟨rfl, fun h => (by cases h), fun _ => ⟨rfl, rfl⟩⟩
 ·rw [if_neg hb] at h ⊢
  obtain ⟨hle, hp, hq, hl, hh⟩ := segBad_false.1 (by simpa using hb)
  obtain ⟨j0, j1, ok1, hs1⟩ : ∃ j0 j1 ok, slabS W0 W1 p.x q.x lo hi false = (j0, j1, ok) := ⟨_, _, _, rfl⟩
  obtain ⟨k0, k1, ok2, hs2⟩ : ∃ j0' j1' ok, slabS j0 j1 p.y q.y lo hi true = (j0', j1', ok) := ⟨_, _, _, rfl⟩
  have z0 : W0.val = 0 := by
   show ((0 : Int) : Rat) / ((1 : Int) : Rat) = 0; have : ((0 : Int) : Rat) = 0 := rfl; rw [this]; grind
  have z1 : W1.val = 1 := by
   show ((1 : Int) : Rat) / ((1 : Int) : Rat) = 1; have : ((1 : Int) : Rat) = 1 := rfl; rw [this]; grind
  obtain ⟨v1, d0, d1, n0, n1⟩ := slab_val (by decide) (by decide) hs1; obtain ⟨v2, -, -, n2, n3⟩ := slab_val d0 d1 hs2; rw [z0, z1] at v1; rw [hs1] at h; dsimp only at h; rw [hs2] at h; dsimp only at h; rw [v1]; dsimp only; rw [v2]; dsimp only
  cases ok1 with
  | false =>
   rw [if_pos rfl] at h ⊢; rw [Prod.mk.injEq, Prod.mk.injEq] at h; obtain ⟨rfl, rfl, rfl⟩ := h; exact ⟨rfl, fun h => (by cases h), fun _ => ⟨rfl, rfl⟩⟩
  | true =>
   rw [if_neg (by decide)] at h ⊢
   cases ok2 with
   | false =>
    rw [if_pos rfl] at h ⊢; rw [Prod.mk.injEq, Prod.mk.injEq] at h; obtain ⟨rfl, rfl, rfl⟩ := h; exact ⟨rfl, fun h => (by cases h), fun _ => ⟨rfl, rfl⟩⟩
   | true =>
    rw [if_neg (by decide)] at h ⊢; rw [Prod.mk.injEq, Prod.mk.injEq] at h; obtain ⟨rfl, rfl, rfl⟩ := h; have g1 := slab_good (up := false) (WG0 p q lo hi).1 (WG0 p q lo hi).2 hs1; have g2 := slab_good (up := true) g1.1 g1.2 hs2
    have e0 : k0.en = true -> onQ p q k0.val = p.pq := by
     intro he
     have : k0 = W0 := by
      rcases n2 with e | e
      ·rcases n0 with f | f
       ·rw [e, f]
       ·rw [e, f] at he; cases he
      ·rw [e] at he; cases he
     rw [this, z0, onQ_0]
    have e1 : k1.en = true -> onQ p q k1.val = q.pq := by
     intro he
     have : k1 = W1 := by
      rcases n3 with e | e
      ·rcases n1 with f | f
       ·rw [e, f]
       ·rw [e, f] at he; cases he
      ·rw [e] at he; cases he
     rw [this, z1, onQ_1]
    have s0 := spotW_val g2.1 hp hq hp hl hh e0; have s1 := spotW_val g2.2 hp hq hq hl hh e1; exact ⟨rfl, fun _ => ⟨s0.1.symm, s1.1.symm, s0.2, s1.2⟩, fun h => (by cases h)⟩
end Go.Proofs.YtfdjdfobhkmlpaaGreat
namespace Go.Proofs.YtfdjdfobhkmlpaaGreat
set_option maxRecDepth 100000
open Go.RowKit B
theorem fr_inj {f g : Fr} (hf : f.right = true) (hg : g.right = true) (h : f.val = g.val) : f = g := by
 obtain ⟨-, f1, -, f3, f4⟩ := Fr.right_iff hf; obtain ⟨-, g1, -, g3, g4⟩ := Fr.right_iff hg; obtain ⟨fq, fr, fd⟩ := f; obtain ⟨gq, gr, gd⟩ := g; dsimp only at *; have hfd : (0 : Rat) < ((fd : Int) : Rat) := cast_pos (by omega); have hgd : (0 : Rat) < ((gd : Int) : Rat) := cast_pos (by omega)
 have e1 : (((fq * fd + fr) * gd : Int) : Rat) = (((gq * gd + gr) * fd : Int) : Rat) := by
  unfold Fr.val at h; dsimp only at h; push_cast at hfd hgd ⊢
  grind
 have e : (fq * fd + fr) * (gd : Int) = (gq * gd + gr) * fd := by exact_mod_cast e1
 have l1 : (fr : Int) * gd < fd * gd := Int.mul_lt_mul_of_pos_right (by omega) (by omega); have l2 : (gr : Int) * fd < gd * fd := Int.mul_lt_mul_of_pos_right (by omega) (by omega); have p1 : 0 <= (fr : Int) * gd := Int.mul_nonneg (by omega) (by omega); have p2 : 0 <= (gr : Int) * fd := Int.mul_nonneg (by omega) (by omega); have hD : 0 < (fd : Int) * gd := Int.mul_pos (by omega) (by omega); rw [Int.add_mul, Int.add_mul, Int.mul_assoc, Int.mul_assoc, Int.mul_comm (gd : Int) fd] at e; rw [Int.mul_comm (gd : Int) fd] at l2
 have hq : fq = gq := by
  generalize (fd : Int) * gd = D at *; rcases Int.lt_trichotomy fq gq with h | h | h
  ·have : (fq + 1) * D <= gq * D := Int.mul_le_mul_of_nonneg_right (by omega) (by omega)
   rw [Int.add_mul] at this; omega
  ·exact h
  ·have : (gq + 1) * D <= fq * D := Int.mul_le_mul_of_nonneg_right (by omega) (by omega)
   rw [Int.add_mul] at this; omega
 subst hq
 have er : fr * gd = gr * fd := by
  have : (fr : Int) * gd = gr * fd := by omega
  exact_mod_cast this
 have d1 : fd ∣ gd := (Nat.Coprime.symm f4).dvd_of_dvd_mul_left (by rw [er]; exact Nat.dvd_mul_left _ _); have d2 : gd ∣ fd := (Nat.Coprime.symm g4).dvd_of_dvd_mul_left (by rw [<- er]; exact Nat.dvd_mul_left _ _); obtain rfl := Nat.dvd_antisymm d1 d2; obtain rfl := Nat.eq_of_mul_eq_mul_right (by omega) er; rfl
theorem spot_inj {a b : Spot} (ha : a.rt) (hb : b.rt) (h : a.pq = b.pq) : a = b := by
 unfold Spot.pq at h; rw [PtQ.mk.injEq] at h; have h1 := fr_inj ha.1 hb.1 h.1; have h2 := fr_inj ha.2 hb.2 h.2; obtain ⟨x, y⟩ := a; obtain ⟨x', y'⟩ := b; dsimp only at h1 h2; rw [h1, h2]
def sameQ (a b : PtQ) : Bool := decide (a.x = b.x) && decide (a.y = b.y)
theorem sameQ_iff {a b : PtQ} : sameQ a b = true ↔ a = b := by
 unfold sameQ; rw [Bool.and_eq_true, decide_eq_true_eq, decide_eq_true_eq]; obtain ⟨x, y⟩ := a; obtain ⟨x', y'⟩ := b; rw [PtQ.mk.injEq]
def putQ (l : List PtQ) (s : PtQ) : List PtQ := if (l.getLast?.any fun x => sameQ x s) = true then l else l ++ [s]
theorem putS_pq {l : List Spot} {s : Spot} (hl : ∀ x ∈ l, x.rt) (hs : s.rt) : (putS l s).map Spot.pq = putQ (l.map Spot.pq) s.pq := by
 unfold putS putQ; rw [List.getLast?_map]
 cases h : l.getLast? with
 | none => simp
 | some x =>
  have hx := hl x (List.mem_of_getLast? h)
  by_cases e : x = s
  ·subst e
   simp [sameQ_iff]
  ·rw [if_neg (by simpa using e), if_neg]
   ·simp
   ·simp only [Option.map_some, Option.any_some, sameQ_iff]
    exact fun h => e (spot_inj hx hs h)
abbrev QS := List (List PtQ) × List PtQ
def flQ (st : QS) : QS := (st.1 ++ (if st.2 = [] then [] else [st.2]), [])
def partQ (l : List Pt) (lo hi : Int) (part : List PtQ) (k : Nat) : List PtQ :=
 match l[k]? with
 | none => part
 | some p =>
  if k = 0 then (if p.inside lo hi = true then [p.pq] else part)
  else match l[k - 1]? with
   | none => part
   | some q => if (segQ q p lo hi).2.2 = true then putQ (putQ part (segQ q p lo hi).1) (segQ q p lo hi).2.1 else part
def stepQ (l : List Pt) (lo hi : Int) (st : QS) (k : Nat) : QS :=
 match l[k]? with
 | none => st
 | some p => if p.inside lo hi = false ∨ k + 1 = l.length then flQ (st.1, partQ l lo hi st.2 k) else (st.1, partQ l lo hi st.2 k)
def clipQTo (l : List Pt) (lo hi : Int) (k : Nat) : QS := (List.range k).foldl (stepQ l lo hi) ([], [])
theorem clipQTo_succ (l : List Pt) (lo hi : Int) (k : Nat) : clipQTo l lo hi (k + 1) = stepQ l lo hi (clipQTo l lo hi k) k := by
 unfold clipQTo; rw [List.range_succ, List.foldl_append]; rfl
def clipQ (l : List Pt) (lo hi : Int) : List (List PtQ) := (clipQTo l lo hi l.length).1
def mapLS (st : LS) : QS := (st.1.map (List.map Spot.pq), st.2.map Spot.pq)
def rtLS (st : LS) : Prop := (∀ part ∈ st.1, ∀ s ∈ part, s.rt) /\ ∀ s ∈ st.2, s.rt
theorem endS_pq (st : LS) : mapLS (endS st) = flQ (mapLS st) := by
 unfold endS flQ mapLS; dsimp only
 by_cases h : st.2 = []
 ·rw [if_pos h, if_pos (by rw [h]; rfl)]; simp
 ·rw [if_neg h, if_neg (by simpa using h)]; simp
theorem endS_rt {st : LS} (h : rtLS st) : rtLS (endS st) := by
 unfold endS rtLS; refine ⟨fun part hp s hs => ?_, fun s hs => by simp at hs⟩; dsimp only at hp; rcases List.mem_append.1 hp with hp | hp
 ·exact h.1 part hp s hs
 ·split at hp
  ·simp at hp
  ·rw [List.mem_singleton.1 hp] at hs; exact h.2 s hs
theorem endS_endS (st : LS) : endS (endS st) = endS st := by
 unfold endS; simp
theorem putS_rt {l : List Spot} {s : Spot} (hl : ∀ x ∈ l, x.rt) (hs : s.rt) : ∀ x ∈ putS l s, x.rt := by
 intro x hx; unfold putS at hx
 split at hx
 ·exact hl x hx
 ·rcases List.mem_append.1 hx with hx | hx
  ·exact hl x hx
  ·rw [List.mem_singleton.1 hx]; exact hs
theorem segS_pq {st : LS} {p q : Pt} {lo hi : Int} (h : rtLS st) : mapLS (segS st p q lo hi) = (st.1.map (List.map Spot.pq), if (segQ p q lo hi).2.2 = true then putQ (putQ (st.2.map Spot.pq) (segQ p q lo hi).1) (segQ p q lo hi).2.1 else st.2.map Spot.pq) /\ rtLS (segS st p q lo hi) := by
 obtain ⟨a, b, ok, hs⟩ : ∃ a b ok, segT p q lo hi = (a, b, ok) := ⟨_, _, _, rfl⟩
 obtain ⟨e1, e2, -⟩ := seg_law hs; unfold segS; rw [hs, e1]
 cases ok with
 | false => exact ⟨rfl, h⟩
 | true =>
  obtain ⟨e3, e4, r1, r2⟩ := e2 rfl; rw [if_pos rfl, if_pos rfl, e3, e4]; have k1 := putS_rt h.2 r1; refine ⟨?_, h.1, putS_rt k1 r2⟩; unfold mapLS; dsimp only; rw [putS_pq k1 r2, putS_pq h.2 r1]
theorem wholeSpot_rt {p : Pt} (h : p.far = false) : (wholeSpot p).rt /\ (wholeSpot p).pq = p.pq := by
 have := far_in h; exact ⟨⟨whole_right this.1, whole_right this.2⟩, by unfold wholeSpot Spot.pq Pt.pq; dsimp only; rw [whole_val, whole_val]⟩
theorem step_pq {l : List Pt} {lo hi : Int} {st : LS} {k : Nat} (hf : ∀ p ∈ l, p.far = false) (h : rtLS st) (hk : k < l.length) (h0 : k = 0 -> st.2 = []) :
  rtLS (stepL l lo hi st k) /\ mapLS (if k + 1 = l.length then endS (stepL l lo hi st k) else stepL l lo hi st k) = stepQ l lo hi (mapLS st) k := by
 unfold stepL stepQ partQ; rw [List.getElem?_eq_getElem hk]; dsimp only; generalize hp : l[k] = p; have fp : p.far = false := hf p (by rw [<- hp]; exact List.getElem_mem hk); obtain ⟨w1, w2⟩ := wholeSpot_rt fp
 by_cases hk0 : k = 0
 ·simp only [if_pos hk0]
  have e0 := h0 hk0
  cases hin : p.inside lo hi with
  | true =>
   simp only [if_true, Bool.true_eq_false, false_or]; have ee : putS st.2 (wholeSpot p) = [wholeSpot p] := by rw [e0]; rfl
   rw [ee]
   have r1 : rtLS (st.1, [wholeSpot p]) := ⟨h.1, fun s hs => by rw [List.mem_singleton.1 hs]; exact w1⟩
   refine ⟨r1, ?_⟩; have m1 : mapLS (st.1, [wholeSpot p]) = ((mapLS st).1, [p.pq]) := by unfold mapLS; simp [w2]
   split
   ·rw [endS_pq, m1]
   ·exact m1
  | false =>
   simp only [Bool.false_eq_true, if_false, true_or, if_true]; refine ⟨h, ?_⟩
   have ef : flQ ((mapLS st).1, (mapLS st).2) = mapLS st := by
    unfold flQ mapLS; rw [e0]; simp
   rw [ef]
   split
   ·rw [endS_pq]; exact ef
   ·rfl
 ·simp only [if_neg hk0]
  have hk1 : k - 1 < l.length := by omega
  rw [List.getElem?_eq_getElem hk1]; dsimp only; generalize l[k - 1] = q; obtain ⟨s1, s2⟩ := segS_pq (p := q) (q := p) (lo := lo) (hi := hi) h
  cases hin : p.inside lo hi with
  | true =>
   simp only [if_true, Bool.true_eq_false, false_or]; refine ⟨s2, ?_⟩
   split
   ·rw [endS_pq, s1]; rfl
   ·rw [s1]; rfl
  | false =>
   simp only [Bool.false_eq_true, if_false, true_or, if_true]; refine ⟨endS_rt s2, ?_⟩; rw [endS_endS, ite_self, endS_pq, s1]; rfl
theorem clipTo_pq {l : List Pt} {lo hi : Int} (hf : ∀ p ∈ l, p.far = false) : ∀ k, k < l.length -> rtLS (clipTo l lo hi k) /\ mapLS (clipTo l lo hi k) = clipQTo l lo hi k
 | 0, _ => ⟨⟨fun p h => by simp [clipTo] at h, fun s h => by simp [clipTo] at h⟩, rfl⟩
 | k + 1, hk => by
  obtain ⟨h1, h2⟩ := clipTo_pq (lo := lo) (hi := hi) hf k (by omega); have := step_pq hf h1 (lo := lo) (hi := hi) (by omega : k < l.length) (fun e => by subst e; rfl); rw [if_neg (by omega)] at this; rw [clipTo_succ, clipQTo_succ, <- h2]; exact this
theorem clip_law {l : List Pt} {lo hi : Int} (he : lineE l lo hi = 0) : (clipR l lo hi).map (List.map Spot.pq) = clipQ l lo hi /\ ∀ part ∈ clipR l lo hi, ∀ s ∈ part, s.rt := by
 obtain ⟨-, -, -, hf⟩ := lineE_zero.1 he; unfold clipR; rw [if_pos he]; unfold clipL clipQ
 by_cases h0 : l.length = 0
 ·rw [h0]
  exact ⟨rfl, fun p h => by simp [clipTo, endS] at h⟩
 ·obtain ⟨n, hn⟩ : ∃ n, l.length = n + 1 := ⟨l.length - 1, by omega⟩
  obtain ⟨h1, h2⟩ := clipTo_pq (lo := lo) (hi := hi) hf n (by omega); have := step_pq hf h1 (lo := lo) (hi := hi) (by omega : n < l.length) (fun e => by subst e; rfl); rw [if_pos (by omega)] at this; rw [hn, clipTo_succ, clipQTo_succ, <- h2, <- this.2]; exact ⟨rfl, (endS_rt this.1).1⟩
end Go.Proofs.YtfdjdfobhkmlpaaGreat
namespace Go.Proofs.YtfdjdfobhkmlpaaGreat
set_option maxRecDepth 100000
open Go.RowKit B
theorem slab_turn (a b : Rat) (p q lo hi : Int) : slabQ (1 - b) (1 - a) q p lo hi = (1 - (slabQ a b p q lo hi).2.1, 1 - (slabQ a b p q lo hi).1, (slabQ a b p q lo hi).2.2) := by
 unfold slabQ
 by_cases h : p = q
 ·subst h
  rw [if_pos rfl, if_pos rfl]
 ·rw [if_neg (fun e => h e.symm), if_neg h]
  have hd : ((q - p : Int) : Rat) ≠ 0 := by exact_mod_cast (show q - p ≠ 0 by omega)
  have hX : slabX q p lo hi = 1 - slabY p q lo hi := by
   unfold slabX slabY
   by_cases hc : q < p
   ·rw [if_neg (by omega), if_pos hc]
    push_cast at hd ⊢
    grind
   ·rw [if_pos (by omega), if_neg hc]
    push_cast at hd ⊢
    grind
  have hY : slabY q p lo hi = 1 - slabX p q lo hi := by
   unfold slabX slabY
   by_cases hc : q < p
   ·rw [if_neg (by omega), if_pos hc]
    push_cast at hd ⊢
    grind
   ·rw [if_pos (by omega), if_neg hc]
    push_cast at hd ⊢
    grind
  rw [hX, hY]; generalize slabX p q lo hi = x; generalize slabY p q lo hi = y
  have e1 : (if 1 - b < 1 - y then 1 - y else 1 - b) = 1 - (if y < b then y else b) := by
   by_cases hc : y < b
   ·rw [if_pos hc, if_pos (by grind)]
   ·rw [if_neg hc, if_neg (by grind)]
  have e2 : (if 1 - x < 1 - a then 1 - x else 1 - a) = 1 - (if a < x then x else a) := by
   by_cases hc : a < x
   ·rw [if_pos hc, if_pos (by grind)]
   ·rw [if_neg hc, if_neg (by grind)]
  rw [e1, e2]; generalize (if y < b then y else b) = u; generalize (if a < x then x else a) = v; refine Prod.ext rfl (Prod.ext rfl ?_); show decide (1 - u <= 1 - v) = decide (v <= u); rw [decide_eq_decide]
  constructor <;> intro h <;> grind
theorem onQ_turn (p q : Pt) (t : Rat) : onQ q p (1 - t) = onQ p q t := by
 unfold onQ; rw [PtQ.mk.injEq]; push_cast
 constructor <;> grind
theorem segBad_turn (p q : Pt) (lo hi : Int) : segBad q p lo hi = segBad p q lo hi := by
 have key : ∀ p q : Pt, segBad p q lo hi = false -> segBad q p lo hi = false := fun p q h => by
  obtain ⟨h1, h2, h3, h4, h5⟩ := segBad_false.1 h; exact segBad_false.2 ⟨h1, h3, h2, h4, h5⟩
 cases h1 : segBad p q lo hi with
 | false => exact key _ _ h1
 | true =>
  cases h2 : segBad q p lo hi with
  | false => rw [key _ _ h2] at h1; cases h1
  | true => rfl
theorem slabQ_eq (a b : Rat) (p lo hi : Int) : slabQ a b p p lo hi = (a, b, decide (lo <= p) && decide (p <= hi)) := by unfold slabQ; rw [if_pos rfl]
theorem slabQ_ne {a b : Rat} {p q lo hi : Int} (h : p ≠ q) : slabQ a b p q lo hi = (if a < slabX p q lo hi then slabX p q lo hi else a, if slabY p q lo hi < b then slabY p q lo hi else b, decide ((if a < slabX p q lo hi then slabX p q lo hi else a) <= (if slabY p q lo hi < b then slabY p q lo hi else b))) := by unfold slabQ; rw [if_neg h]
theorem seg_turn (p q : Pt) (lo hi : Int) : segQ q p lo hi = ((segQ p q lo hi).2.1, (segQ p q lo hi).1, (segQ p q lo hi).2.2) := by
 unfold segQ; rw [segBad_turn]; have h01 : ((0 : Rat) = 1 - 1) /\ ((1 : Rat) = 1 - 0) := by constructor <;> grind
 have t1 := slab_turn 0 1 p.x q.x lo hi; rw [<- h01.1, <- h01.2] at t1; rw [t1]; dsimp only; have t2 := slab_turn (slabQ 0 1 p.x q.x lo hi).1 (slabQ 0 1 p.x q.x lo hi).2.1 p.y q.y lo hi; rw [t2]; dsimp only
 by_cases hb : segBad p q lo hi = true
 ·simp only [if_pos hb]
 ·simp only [if_neg hb]
  by_cases h1 : (slabQ 0 1 p.x q.x lo hi).2.2 = false
  ·simp only [if_pos h1]
  ·simp only [if_neg h1]
   split
   ·rfl
   ·rw [onQ_turn, onQ_turn]
theorem slab_in {a b : Rat} {p q lo hi : Int} (hab : (slabQ a b p q lo hi).2.2 = true) (t : Rat) (h1 : (slabQ a b p q lo hi).1 <= t) (h2 : t <= (slabQ a b p q lo hi).2.1) :
  a <= t /\ t <= b /\ (lo : Rat) <= (p : Rat) + ((q - p : Int) : Rat) * t /\ (p : Rat) + ((q - p : Int) : Rat) * t <= (hi : Rat) := by
 by_cases h : p = q
 ·subst h
  rw [slabQ_eq] at hab h1 h2; simp only [Bool.and_eq_true, decide_eq_true_eq] at hab h1 h2; have e1 : (lo : Rat) <= p := by exact_mod_cast hab.1
  have e2 : (p : Rat) <= hi := by exact_mod_cast hab.2
  have e3 : ((p - p : Int) : Rat) = 0 := by rw [Int.sub_self]; rfl
  rw [e3]; refine ⟨h1, h2, by grind, by grind⟩
 ·rw [slabQ_ne h] at h1 h2 hab
  dsimp only at h1 h2 hab; have k1 : a <= t /\ slabX p q lo hi <= t := by split at h1 <;> constructor <;> grind
  have k2 : t <= b /\ t <= slabY p q lo hi := by split at h2 <;> constructor <;> grind
  refine ⟨k1.1, k2.1, ?_⟩; have k3 := k1.2; have k4 := k2.2; clear hab h1 h2 k1 k2; unfold slabX at k3; unfold slabY at k4
  by_cases hc : q < p
  ·rw [if_pos hc] at k3 k4
   have hd : (0 : Rat) < ((p : Rat) - q) := by
    have : ((q : Int) : Rat) < p := by exact_mod_cast hc
    grind
   push_cast at k3 k4 ⊢
   have e3 : ((hi : Rat) - p) / ((q : Rat) - p) * ((p : Rat) - q) = (p : Rat) - hi := by grind
   have e4 : ((lo : Rat) - p) / ((q : Rat) - p) * ((p : Rat) - q) = (p : Rat) - lo := by grind
   have m3 := Rat.mul_nonneg (show 0 <= t - ((hi : Rat) - p) / ((q : Rat) - p) by grind) (show 0 <= (p : Rat) - q by grind); have m4 := Rat.mul_nonneg (show 0 <= ((lo : Rat) - p) / ((q : Rat) - p) - t by grind) (show 0 <= (p : Rat) - q by grind); generalize ((hi : Rat) - p) / ((q : Rat) - p) = X at *; generalize ((lo : Rat) - p) / ((q : Rat) - p) = Y at *
   constructor <;> grind
  ·rw [if_neg hc] at k3 k4
   have hd : (0 : Rat) < ((q : Rat) - p) := by
    have : ((p : Int) : Rat) < q := by exact_mod_cast (show p < q by omega)
    grind
   push_cast at k3 k4 ⊢
   have e3 : ((lo : Rat) - p) / ((q : Rat) - p) * ((q : Rat) - p) = (lo : Rat) - p := by grind
   have e4 : ((hi : Rat) - p) / ((q : Rat) - p) * ((q : Rat) - p) = (hi : Rat) - p := by grind
   have m3 := Rat.mul_nonneg (show 0 <= t - ((lo : Rat) - p) / ((q : Rat) - p) by grind) (show 0 <= (q : Rat) - p by grind); have m4 := Rat.mul_nonneg (show 0 <= ((hi : Rat) - p) / ((q : Rat) - p) - t by grind) (show 0 <= (q : Rat) - p by grind); generalize ((lo : Rat) - p) / ((q : Rat) - p) = X at *; generalize ((hi : Rat) - p) / ((q : Rat) - p) = Y at *
   constructor <;> grind
def InW (lo hi : Int) (q : PtQ) : Prop := (lo : Rat) <= q.x /\ q.x <= (hi : Rat) /\ (lo : Rat) <= q.y /\ q.y <= (hi : Rat)
theorem slab_le {a b : Rat} {p q lo hi : Int} (h : a <= b) (hok : (slabQ a b p q lo hi).2.2 = true) : (slabQ a b p q lo hi).1 <= (slabQ a b p q lo hi).2.1 := by
 by_cases e : p = q
 ·subst e
  rw [slabQ_eq]; exact h
 ·rw [slabQ_ne e] at hok ⊢
  exact of_decide_eq_true hok
theorem seg_in {p q : Pt} {lo hi : Int} (h : (segQ p q lo hi).2.2 = true) : InW lo hi (segQ p q lo hi).1 /\ InW lo hi (segQ p q lo hi).2.1 := by
 unfold segQ at *
 by_cases hb : segBad p q lo hi = true
 ·simp [if_pos hb] at h
 ·simp only [if_neg hb] at h ⊢
  by_cases h1 : (slabQ 0 1 p.x q.x lo hi).2.2 = false
  ·simp [if_pos h1] at h
  ·simp only [if_neg h1] at h ⊢
   split at h
   ·simp at h
   ·rename_i h2
    simp only [if_neg h2]; have h1 : (slabQ 0 1 p.x q.x lo hi).2.2 = true := by simpa using h1
    have h2 : (slabQ (slabQ 0 1 p.x q.x lo hi).1 (slabQ 0 1 p.x q.x lo hi).2.1 p.y q.y lo hi).2.2 = true := by simpa using h2
    have l1 := slab_le (show (0 : Rat) <= 1 by decide) h1; have l2 := slab_le l1 h2; have r := fun t u v => slab_in h2 t u v
    have a1 := r _ Rat.le_refl l2; have a2 := r _ l2 Rat.le_refl; have b1 := slab_in h1 _ a1.1 a1.2.1; have b2 := slab_in h1 _ a2.1 a2.2.1; exact ⟨⟨b1.2.2.1, b1.2.2.2, a1.2.2.1, a1.2.2.2⟩, ⟨b2.2.2.1, b2.2.2.2, a2.2.2.1, a2.2.2.2⟩⟩
theorem slab_from {b : Rat} {p q lo hi : Int} (h0 : 0 <= b) (h1 : lo <= p) (h2 : p <= hi) : (slabQ 0 b p q lo hi).1 = 0 /\ (slabQ 0 b p q lo hi).2.2 = true /\ 0 <= (slabQ 0 b p q lo hi).2.1 := by
 by_cases e : p = q
 ·subst e
  rw [slabQ_eq]; exact ⟨rfl, by simp [h1, h2], h0⟩
 ·rw [slabQ_ne e]
  have hx : slabX p q lo hi <= 0 := by
   unfold slabX
   by_cases hc : q < p
   ·rw [if_pos hc]
    have hd : ((q - p : Int) : Rat) < 0 := by exact_mod_cast (show q - p < 0 by omega)
    have hn : (0 : Rat) <= ((hi - p : Int) : Rat) := by exact_mod_cast (show 0 <= hi - p by omega)
    have he : ((hi - p : Int) : Rat) / ((q - p : Int) : Rat) * ((q - p : Int) : Rat) = ((hi - p : Int) : Rat) := by grind
    generalize ((hi - p : Int) : Rat) / ((q - p : Int) : Rat) = X at *; rw [<- Rat.not_lt]; intro hh; have := Rat.mul_pos hh (show 0 < -((q - p : Int) : Rat) by grind); grind
   ·rw [if_neg hc]
    have hd : 0 < ((q - p : Int) : Rat) := by exact_mod_cast (show 0 < q - p by omega)
    have hn : ((lo - p : Int) : Rat) <= 0 := by exact_mod_cast (show lo - p <= 0 by omega)
    have he : ((lo - p : Int) : Rat) / ((q - p : Int) : Rat) * ((q - p : Int) : Rat) = ((lo - p : Int) : Rat) := by grind
    generalize ((lo - p : Int) : Rat) / ((q - p : Int) : Rat) = X at *; rw [<- Rat.not_lt]; intro hh; have := Rat.mul_pos hh hd; grind
  have hy : 0 <= slabY p q lo hi := by
   unfold slabY
   by_cases hc : q < p
   ·rw [if_pos hc]
    have hd : ((q - p : Int) : Rat) < 0 := by exact_mod_cast (show q - p < 0 by omega)
    have hn : ((lo - p : Int) : Rat) <= 0 := by exact_mod_cast (show lo - p <= 0 by omega)
    have he : ((lo - p : Int) : Rat) / ((q - p : Int) : Rat) * ((q - p : Int) : Rat) = ((lo - p : Int) : Rat) := by grind
    generalize ((lo - p : Int) : Rat) / ((q - p : Int) : Rat) = X at *; rw [<- Rat.not_lt]; intro hh; have := Rat.mul_pos (show 0 < -X by grind) (show 0 < -((q - p : Int) : Rat) by grind); grind
   ·rw [if_neg hc]
    have hd : 0 < ((q - p : Int) : Rat) := by exact_mod_cast (show 0 < q - p by omega)
    have hn : (0 : Rat) <= ((hi - p : Int) : Rat) := by exact_mod_cast (show 0 <= hi - p by omega)
    have he : ((hi - p : Int) : Rat) / ((q - p : Int) : Rat) * ((q - p : Int) : Rat) = ((hi - p : Int) : Rat) := by grind
    generalize ((hi - p : Int) : Rat) / ((q - p : Int) : Rat) = X at *; rw [<- Rat.not_lt]; intro hh; have := Rat.mul_pos (show 0 < -X by grind) hd; grind
  have e1 : (if (0 : Rat) < slabX p q lo hi then slabX p q lo hi else 0) = 0 := if_neg (by grind); rw [e1]; have e2 : 0 <= (if slabY p q lo hi < b then slabY p q lo hi else b) := by split <;> assumption
  exact ⟨rfl, decide_eq_true e2, e2⟩
theorem seg_from {p q : Pt} {lo hi : Int} (hb : segBad p q lo hi = false) (hp : p.inside lo hi = true) : (segQ p q lo hi).2.2 = true /\ (segQ p q lo hi).1 = p.pq := by
 simp only [Pt.inside, Bool.and_eq_true, decide_eq_true_eq] at hp; obtain ⟨⟨⟨p1, p2⟩, p3⟩, p4⟩ := hp; obtain ⟨x1, x2, x3⟩ := slab_from (b := 1) (q := q.x) (by decide) p1 p2; obtain ⟨y1, y2, -⟩ := slab_from (b := (slabQ 0 1 p.x q.x lo hi).2.1) (q := q.y) x3 p3 p4; unfold segQ; rw [if_neg (by rw [hb]; decide), if_neg (by rw [x2]; decide), x1, if_neg (by rw [y2]; decide), y1, onQ_0]; exact ⟨rfl, rfl⟩
theorem seg_to {p q : Pt} {lo hi : Int} (hb : segBad p q lo hi = false) (hq : q.inside lo hi = true) : (segQ p q lo hi).2.2 = true /\ (segQ p q lo hi).2.1 = q.pq := by
 have := seg_from (p := q) (q := p) (by rw [segBad_turn]; exact hb) hq; rw [seg_turn] at this; exact this
def tokV (lo hi : Int) (p : Pt) : List (Option PtQ) := if p.inside lo hi = true then [some p.pq] else [none]
def tokE (lo hi : Int) (p q : Pt) : List (Option PtQ) := if (segQ p q lo hi).2.2 = true then [some (segQ p q lo hi).1, some (segQ p q lo hi).2.1] else []
def tok (lo hi : Int) : List Pt -> List (Option PtQ)
 | [] => []
 | [p] => tokV lo hi p
 | p :: q :: l => tokV lo hi p ++ (tokE lo hi p q ++ tok lo hi (q :: l))
theorem tok_snoc (lo hi : Int) (p q : Pt) : ∀ l : List Pt, tok lo hi (l ++ [p, q]) = tok lo hi (l ++ [p]) ++ (tokE lo hi p q ++ tokV lo hi q)
 | [] => rfl
 | [a] => by
  show tokV lo hi a ++ (tokE lo hi a p ++ (tokV lo hi p ++ (tokE lo hi p q ++ tokV lo hi q))) = (tokV lo hi a ++ (tokE lo hi a p ++ tokV lo hi p)) ++ _; simp only [List.append_assoc]
 | a :: b :: l => by
  show tokV lo hi a ++ (tokE lo hi a b ++ tok lo hi ((b :: l) ++ [p, q])) = (tokV lo hi a ++ (tokE lo hi a b ++ tok lo hi ((b :: l) ++ [p]))) ++ _; rw [tok_snoc lo hi p q (b :: l)]; simp only [List.append_assoc]
def tokS (st : QS) : Option PtQ -> QS
 | some x => (st.1, putQ st.2 x)
 | none => flQ st
theorem putQ_last (l : List PtQ) (x : PtQ) : (putQ l x).getLast? = some x := by
 unfold putQ
 split
 ·rename_i h
  cases hl : l.getLast? with
  | none => rw [hl] at h; simp at h
  | some y =>
   rw [hl] at h; rw [Option.any_some, sameQ_iff] at h; rw [h]
 ·simp
theorem putQ_put {l : List PtQ} {x : PtQ} (h : l.getLast? = some x) : putQ l x = l := by
 unfold putQ; rw [h, Option.any_some, if_pos (sameQ_iff.2 rfl)]
theorem flQ_fl (st : QS) : flQ (flQ st) = flQ st := by
 unfold flQ; simp
theorem stepQ_tok {l : List Pt} {lo hi : Int} (hf : ∀ p ∈ l, ∀ q ∈ l, segBad p q lo hi = false) {k : Nat} (hk : k < l.length) (st : QS) (h0 : k = 0 -> st = ([], [])) :
  ∃ ts, tok lo hi (l.take (k + 1)) = tok lo hi (l.take k) ++ ts /\ stepQ l lo hi st k = if k + 1 = l.length then flQ (ts.foldl tokS st) else ts.foldl tokS st := by
 have e1 := List.take_succ_eq_append_getElem hk; unfold stepQ partQ; rw [List.getElem?_eq_getElem hk]; dsimp only
 by_cases hk0 : k = 0
 ·subst hk0
  refine ⟨tokV lo hi l[0], by rw [e1]; rfl, ?_⟩; rw [h0 rfl, if_pos rfl]; unfold tokV
  cases hin : l[0].inside lo hi with
  | true =>
   simp only [if_true, Bool.true_eq_false, false_or]; rfl
  | false =>
   simp only [Bool.false_eq_true, if_false, true_or, if_true]
   split <;> rfl
 ·have hk1 : k - 1 < l.length := by omega
  have e2 : l.take k = l.take (k - 1) ++ [l[k - 1]] := by
   have := List.take_succ_eq_append_getElem hk1
   rwa [show k - 1 + 1 = k by omega] at this
  refine ⟨tokE lo hi l[k - 1] l[k] ++ tokV lo hi l[k], ?_, ?_⟩
  ·rw [e1, e2, List.append_assoc]
   exact tok_snoc lo hi _ _ _
  ·rw [if_neg hk0, List.getElem?_eq_getElem hk1, List.foldl_append]
   dsimp only; have hsb := hf _ (List.getElem_mem hk1) _ (List.getElem_mem hk)
   have hst : List.foldl tokS st (tokE lo hi l[k - 1] l[k]) = (st.1, if (segQ l[k - 1] l[k] lo hi).2.2 = true then putQ (putQ st.2 (segQ l[k - 1] l[k] lo hi).1) (segQ l[k - 1] l[k] lo hi).2.1 else st.2) := by
    unfold tokE
    split <;> rfl
   rw [hst]; unfold tokV
   cases hin : l[k].inside lo hi with
   | true =>
    obtain ⟨s1, s2⟩ := seg_to hsb hin; simp only [if_true, Bool.true_eq_false, false_or, s1]
    have : List.foldl tokS (st.1, putQ (putQ st.2 (segQ l[k - 1] l[k] lo hi).1) (segQ l[k - 1] l[k] lo hi).2.1) [some l[k].pq] = (st.1, putQ (putQ st.2 (segQ l[k - 1] l[k] lo hi).1) (segQ l[k - 1] l[k] lo hi).2.1) := by
     show (st.1, putQ _ _) = _; rw [putQ_put]; rw [<- s2]; exact putQ_last _ _
    rw [this]
   | false =>
    simp only [Bool.false_eq_true, if_false, true_or, if_true]; show _ = if _ then flQ (flQ _) else flQ _; rw [flQ_fl, ite_self]
def runT (ts : List (Option PtQ)) : List (List PtQ) := (flQ (ts.foldl tokS ([], []))).1
theorem clip_tok {l : List Pt} {lo hi : Int} (hf : ∀ p ∈ l, ∀ q ∈ l, segBad p q lo hi = false) : clipQ l lo hi = runT (tok lo hi l) := by
 have key : ∀ k, k < l.length -> clipQTo l lo hi k = (tok lo hi (l.take k)).foldl tokS ([], []) := by
  intro k
  induction k with
  | zero => intro _; rfl
  | succ k ih =>
   intro hk; obtain ⟨ts, h1, h2⟩ := stepQ_tok hf (show k < l.length by omega) (clipQTo l lo hi k) (by rintro rfl; rfl); rw [if_neg (by omega)] at h2; rw [clipQTo_succ, h2, h1, List.foldl_append, ih (by omega)]
 unfold clipQ runT
 by_cases h0 : l.length = 0
 ·rw [List.eq_nil_of_length_eq_zero h0]
  rfl
 ·obtain ⟨n, hn⟩ : ∃ n, l.length = n + 1 := ⟨l.length - 1, by omega⟩
  obtain ⟨ts, h1, h2⟩ := stepQ_tok hf (show n < l.length by omega) (clipQTo l lo hi n) (by rintro rfl; rfl); rw [if_pos (by omega)] at h2; rw [hn, clipQTo_succ, h2, key n (by omega), <- List.foldl_append, <- h1, <- hn, List.take_length]
theorem runT_mem {P : PtQ -> Prop} : ∀ (ts : List (Option PtQ)), (∀ x, some x ∈ ts -> P x) -> ∀ part ∈ runT ts, ∀ x ∈ part, P x := by
 have put : ∀ (l : List PtQ) (y : PtQ), (∀ x ∈ l, P x) -> P y -> ∀ x ∈ putQ l y, P x := by
  intro l y hl hy x hx; unfold putQ at hx
  split at hx
  ·exact hl x hx
  ·rcases List.mem_append.1 hx with h | h
   ·exact hl x h
   ·rw [List.mem_singleton.1 h]; exact hy
 have fl : ∀ st : QS, (∀ part ∈ st.1, ∀ x ∈ part, P x) /\ (∀ x ∈ st.2, P x) -> (∀ part ∈ (flQ st).1, ∀ x ∈ part, P x) /\ (∀ x ∈ (flQ st).2, P x) := by
  intro st h; refine ⟨fun part hp x hx => ?_, fun x hx => by simp [flQ] at hx⟩; unfold flQ at hp; dsimp only at hp; rcases List.mem_append.1 hp with hp | hp
  ·exact h.1 part hp x hx
  ·split at hp
   ·simp at hp
   ·rw [List.mem_singleton.1 hp] at hx; exact h.2 x hx
 have key : ∀ (ts : List (Option PtQ)) (st : QS), (∀ x, some x ∈ ts -> P x) -> (∀ part ∈ st.1, ∀ x ∈ part, P x) /\ (∀ x ∈ st.2, P x) -> (∀ part ∈ (ts.foldl tokS st).1, ∀ x ∈ part, P x) /\ (∀ x ∈ (ts.foldl tokS st).2, P x) := by
  intro ts
  induction ts with
  | nil => intro st _ h; exact h
  | cons t ts ih =>
   intro st hts h; refine ih _ (fun x hx => hts x (by simp [hx])) ?_
   cases t with
   | none => exact fl st h
   | some y => exact ⟨h.1, put st.2 y h.2 (hts y (by simp))⟩
 intro ts hts; exact (fl _ (key ts ([], []) hts ⟨fun p h => by simp at h, fun x h => by simp at h⟩)).1
theorem tok_in (lo hi : Int) : ∀ (l : List Pt) (x : PtQ), some x ∈ tok lo hi l -> InW lo hi x := by
 have hv : ∀ (p : Pt) (x : PtQ), some x ∈ tokV lo hi p -> InW lo hi x := by
  intro p x hx; unfold tokV at hx
  split at hx
  ·rename_i hp
   rw [List.mem_singleton, Option.some.injEq] at hx; rw [hx]; simp only [Pt.inside, Bool.and_eq_true, decide_eq_true_eq] at hp; obtain ⟨⟨⟨p1, p2⟩, p3⟩, p4⟩ := hp; exact ⟨by show (lo : Rat) <= (p.x : Rat); exact_mod_cast p1, by show (p.x : Rat) <= (hi : Rat); exact_mod_cast p2, by show (lo : Rat) <= (p.y : Rat); exact_mod_cast p3, by show (p.y : Rat) <= (hi : Rat); exact_mod_cast p4⟩
  ·simp at hx
 have he : ∀ (p q : Pt) (x : PtQ), some x ∈ tokE lo hi p q -> InW lo hi x := by
  intro p q x hx; unfold tokE at hx
  split at hx
  ·rename_i h
   have := seg_in h; simp only [List.mem_cons, Option.some.injEq, List.not_mem_nil, or_false] at hx; rcases hx with rfl | rfl
   ·exact this.1
   ·exact this.2
  ·simp at hx
 intro l
 induction l with
 | nil => intro x hx; simp [tok] at hx
 | cons p l ih =>
  intro x hx
  cases l with
  | nil => exact hv p x hx
  | cons q l =>
   rcases List.mem_append.1 (show some x ∈ tokV lo hi p ++ (tokE lo hi p q ++ tok lo hi (q :: l)) from hx) with h | h
   ·exact hv p x h
   ·rcases List.mem_append.1 h with h | h
    ·exact he p q x h
    ·exact ih x h
theorem lineE_seg {l : List Pt} {lo hi : Int} (he : lineE l lo hi = 0) : ∀ p ∈ l, ∀ q ∈ l, segBad p q lo hi = false := by
 obtain ⟨h1, h2, h3, h4⟩ := lineE_zero.1 he; intro p hp q hq; exact segBad_false.2 ⟨h1, h4 p hp, h4 q hq, by assumption, by assumption⟩
theorem whole_in {l : List Pt} {lo hi : Int} (he : lineE l lo hi = 0) : ∀ part ∈ clipR l lo hi, ∀ s ∈ part, s.rt /\ InW lo hi s.pq := by
 obtain ⟨v1, r1⟩ := clip_law he; intro part hp s hs; refine ⟨r1 part hp s hs, ?_⟩; rw [clip_tok (lineE_seg he)] at v1; refine runT_mem (tok lo hi l) (tok_in lo hi l) (part.map Spot.pq) ?_ _ (List.mem_map_of_mem hs); rw [<- v1]; exact List.mem_map_of_mem hp
end Go.Proofs.YtfdjdfobhkmlpaaGreat
