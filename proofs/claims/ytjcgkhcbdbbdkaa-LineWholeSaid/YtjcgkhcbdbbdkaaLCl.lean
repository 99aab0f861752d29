/-
  Lines clipped at a window, in plain Lean: the values of the parts; a right fraction is the only one of its value.
-/
import Derived.Test.YtjcgkhcbdbbdkaaChecked
import Derived.Test.YtjcgkhcbdbbdkaaLVal
namespace Go.Proofs.Ytjcgkhcbdbbdkaa
open Go.RowKit B

theorem fr_inj {f g : Fr} (hf : f.right = true) (hg : g.right = true) (h : f.val = g.val) : f = g := by
  obtain ⟨-, f1, -, f3, f4⟩ := Fr.right_iff hf
  obtain ⟨-, g1, -, g3, g4⟩ := Fr.right_iff hg
  obtain ⟨fq, fr, fd⟩ := f
  obtain ⟨gq, gr, gd⟩ := g
  dsimp only at *
  have hfd : (0 : Rat) < ((fd : Int) : Rat) := cast_pos (by omega)
  have hgd : (0 : Rat) < ((gd : Int) : Rat) := cast_pos (by omega)
  have e1 : (((fq * fd + fr) * gd : Int) : Rat) = (((gq * gd + gr) * fd : Int) : Rat) := by
    unfold Fr.val at h
    dsimp only at h
    push_cast at hfd hgd ⊢
    grind
  have e : (fq * fd + fr) * (gd : Int) = (gq * gd + gr) * fd := by exact_mod_cast e1
  have l1 : (fr : Int) * gd < fd * gd := Int.mul_lt_mul_of_pos_right (by omega) (by omega)
  have l2 : (gr : Int) * fd < gd * fd := Int.mul_lt_mul_of_pos_right (by omega) (by omega)
  have p1 : 0 ≤ (fr : Int) * gd := Int.mul_nonneg (by omega) (by omega)
  have p2 : 0 ≤ (gr : Int) * fd := Int.mul_nonneg (by omega) (by omega)
  have hD : 0 < (fd : Int) * gd := Int.mul_pos (by omega) (by omega)
  rw [Int.add_mul, Int.add_mul, Int.mul_assoc, Int.mul_assoc, Int.mul_comm (gd : Int) fd] at e
  rw [Int.mul_comm (gd : Int) fd] at l2
  have hq : fq = gq := by
    generalize (fd : Int) * gd = D at *
    rcases Int.lt_trichotomy fq gq with h | h | h
    · have : (fq + 1) * D ≤ gq * D := Int.mul_le_mul_of_nonneg_right (by omega) (by omega)
      rw [Int.add_mul] at this
      omega
    · exact h
    · have : (gq + 1) * D ≤ fq * D := Int.mul_le_mul_of_nonneg_right (by omega) (by omega)
      rw [Int.add_mul] at this
      omega
  subst hq
  have er : fr * gd = gr * fd := by
    have : (fr : Int) * gd = gr * fd := by omega
    exact_mod_cast this
  have d1 : fd ∣ gd := (Nat.Coprime.symm f4).dvd_of_dvd_mul_left (by rw [er]; exact Nat.dvd_mul_left _ _)
  have d2 : gd ∣ fd := (Nat.Coprime.symm g4).dvd_of_dvd_mul_left (by rw [← er]; exact Nat.dvd_mul_left _ _)
  obtain rfl := Nat.dvd_antisymm d1 d2
  obtain rfl := Nat.eq_of_mul_eq_mul_right (by omega) er
  rfl
theorem spot_inj {a b : Spot} (ha : a.rt) (hb : b.rt) (h : a.pq = b.pq) : a = b := by
  unfold Spot.pq at h
  rw [PtQ.mk.injEq] at h
  have h1 := fr_inj ha.1 hb.1 h.1
  have h2 := fr_inj ha.2 hb.2 h.2
  obtain ⟨x, y⟩ := a
  obtain ⟨x', y'⟩ := b
  dsimp only at h1 h2
  rw [h1, h2]
def sameQ (a b : PtQ) : Bool := decide (a.x = b.x) && decide (a.y = b.y)
theorem sameQ_iff {a b : PtQ} : sameQ a b = true ↔ a = b := by
  unfold sameQ
  rw [Bool.and_eq_true, decide_eq_true_eq, decide_eq_true_eq]
  obtain ⟨x, y⟩ := a
  obtain ⟨x', y'⟩ := b
  rw [PtQ.mk.injEq]
def putQ (l : List PtQ) (s : PtQ) : List PtQ := if (l.getLast?.any fun x => sameQ x s) = true then l else l ++ [s]
theorem putS_pq {l : List Spot} {s : Spot} (hl : ∀ x ∈ l, x.rt) (hs : s.rt) : (putS l s).map Spot.pq = putQ (l.map Spot.pq) s.pq := by
  unfold putS putQ
  rw [List.getLast?_map]
  cases h : l.getLast? with
  | none => simp
  | some x =>
    have hx := hl x (List.mem_of_getLast? h)
    by_cases e : x = s
    · subst e
      simp [sameQ_iff]
    · rw [if_neg (by simpa using e), if_neg]
      · simp
      · simp only [Option.map_some, Option.any_some, sameQ_iff]
        exact fun h => e (spot_inj hx hs h)
abbrev QS := List (List PtQ) × List PtQ
def flQ (st : QS) : QS := (st.1 ++ (if st.2 = [] then [] else [st.2]), [])
def partQ (l : List Pt) (lo hi : Int) (part : List PtQ) (k : Nat) : List PtQ :=
  match l[k]? with
  | none => part
  | some p =>
    if k = 0 then (if p.inside lo hi = true then [p.pq] else part)
    else match l[k - 1]? with
      | none => part
      | some q => if (segQ q p lo hi).2.2 = true then putQ (putQ part (segQ q p lo hi).1) (segQ q p lo hi).2.1 else part
def stepQ (l : List Pt) (lo hi : Int) (st : QS) (k : Nat) : QS :=
  match l[k]? with
  | none => st
  | some p => if p.inside lo hi = false ∨ k + 1 = l.length then flQ (st.1, partQ l lo hi st.2 k) else (st.1, partQ l lo hi st.2 k)
def clipQTo (l : List Pt) (lo hi : Int) (k : Nat) : QS := (List.range k).foldl (stepQ l lo hi) ([], [])
theorem clipQTo_succ (l : List Pt) (lo hi : Int) (k : Nat) : clipQTo l lo hi (k + 1) = stepQ l lo hi (clipQTo l lo hi k) k := by
  unfold clipQTo
  rw [List.range_succ, List.foldl_append]
  rfl
def clipQ (l : List Pt) (lo hi : Int) : List (List PtQ) := (clipQTo l lo hi l.length).1
def mapLS (st : LS) : QS := (st.1.map (List.map Spot.pq), st.2.map Spot.pq)
def rtLS (st : LS) : Prop := (∀ part ∈ st.1, ∀ s ∈ part, s.rt) ∧ ∀ s ∈ st.2, s.rt
theorem endS_pq (st : LS) : mapLS (endS st) = flQ (mapLS st) := by
  unfold endS flQ mapLS
  dsimp only
  by_cases h : st.2 = []
  · rw [if_pos h, if_pos (by rw [h]; rfl)]; simp
  · rw [if_neg h, if_neg (by simpa using h)]; simp
theorem endS_rt {st : LS} (h : rtLS st) : rtLS (endS st) := by
  unfold endS rtLS
  refine ⟨fun part hp s hs => ?_, fun s hs => by simp at hs⟩
  dsimp only at hp
  rcases List.mem_append.1 hp with hp | hp
  · exact h.1 part hp s hs
  · split at hp
    · simp at hp
    · rw [List.mem_singleton.1 hp] at hs; exact h.2 s hs
theorem endS_endS (st : LS) : endS (endS st) = endS st := by
  unfold endS
  simp
theorem putS_rt {l : List Spot} {s : Spot} (hl : ∀ x ∈ l, x.rt) (hs : s.rt) : ∀ x ∈ putS l s, x.rt := by
  intro x hx
  unfold putS at hx
  split at hx
  · exact hl x hx
  · rcases List.mem_append.1 hx with hx | hx
    · exact hl x hx
    · rw [List.mem_singleton.1 hx]; exact hs
theorem segS_pq {st : LS} {p q : Pt} {lo hi : Int} (h : rtLS st) : mapLS (segS st p q lo hi) = (st.1.map (List.map Spot.pq), if (segQ p q lo hi).2.2 = true then putQ (putQ (st.2.map Spot.pq) (segQ p q lo hi).1) (segQ p q lo hi).2.1 else st.2.map Spot.pq) ∧ rtLS (segS st p q lo hi) := by
  obtain ⟨a, b, ok, hs⟩ : ∃ a b ok, segT p q lo hi = (a, b, ok) := ⟨_, _, _, rfl⟩
  obtain ⟨e1, e2, -⟩ := seg_law hs
  unfold segS
  rw [hs, e1]
  cases ok with
  | false => exact ⟨rfl, h⟩
  | true =>
    obtain ⟨e3, e4, r1, r2⟩ := e2 rfl
    rw [if_pos rfl, if_pos rfl, e3, e4]
    have k1 := putS_rt h.2 r1
    refine ⟨?_, h.1, putS_rt k1 r2⟩
    unfold mapLS
    dsimp only
    rw [putS_pq k1 r2, putS_pq h.2 r1]
theorem wholeSpot_rt {p : Pt} (h : p.far = false) : (wholeSpot p).rt ∧ (wholeSpot p).pq = p.pq := by
  have := far_in h
  exact ⟨⟨whole_right this.1, whole_right this.2⟩, by unfold wholeSpot Spot.pq Pt.pq; dsimp only; rw [whole_val, whole_val]⟩
theorem step_pq {l : List Pt} {lo hi : Int} {st : LS} {k : Nat} (hf : ∀ p ∈ l, p.far = false) (h : rtLS st) (hk : k < l.length) (h0 : k = 0 → st.2 = []) :
    rtLS (stepL l lo hi st k) ∧ mapLS (if k + 1 = l.length then endS (stepL l lo hi st k) else stepL l lo hi st k) = stepQ l lo hi (mapLS st) k := by
  unfold stepL stepQ partQ
  rw [List.getElem?_eq_getElem hk]
  dsimp only
  generalize hp : l[k] = p
  have fp : p.far = false := hf p (by rw [← hp]; exact List.getElem_mem hk)
  obtain ⟨w1, w2⟩ := wholeSpot_rt fp
  by_cases hk0 : k = 0
  · simp only [if_pos hk0]
    have e0 := h0 hk0
    cases hin : p.inside lo hi with
    | true =>
      simp only [if_true, Bool.true_eq_false, false_or]
      have ee : putS st.2 (wholeSpot p) = [wholeSpot p] := by rw [e0]; rfl
      rw [ee]
      have r1 : rtLS (st.1, [wholeSpot p]) := ⟨h.1, fun s hs => by rw [List.mem_singleton.1 hs]; exact w1⟩
      refine ⟨r1, ?_⟩
      have m1 : mapLS (st.1, [wholeSpot p]) = ((mapLS st).1, [p.pq]) := by unfold mapLS; simp [w2]
      split
      · rw [endS_pq, m1]
      · exact m1
    | false =>
      simp only [Bool.false_eq_true, if_false, true_or, if_true]
      refine ⟨h, ?_⟩
      have ef : flQ ((mapLS st).1, (mapLS st).2) = mapLS st := by
        unfold flQ mapLS
        rw [e0]
        simp
      rw [ef]
      split
      · rw [endS_pq]; exact ef
      · rfl
  · simp only [if_neg hk0]
    have hk1 : k - 1 < l.length := by omega
    rw [List.getElem?_eq_getElem hk1]
    dsimp only
    generalize l[k - 1] = q
    obtain ⟨s1, s2⟩ := segS_pq (p := q) (q := p) (lo := lo) (hi := hi) h
    cases hin : p.inside lo hi with
    | true =>
      simp only [if_true, Bool.true_eq_false, false_or]
      refine ⟨s2, ?_⟩
      split
      · rw [endS_pq, s1]; rfl
      · rw [s1]; rfl
    | false =>
      simp only [Bool.false_eq_true, if_false, true_or, if_true]
      refine ⟨endS_rt s2, ?_⟩
      rw [endS_endS, ite_self, endS_pq, s1]
      rfl
theorem clipTo_pq {l : List Pt} {lo hi : Int} (hf : ∀ p ∈ l, p.far = false) : ∀ k, k < l.length → rtLS (clipTo l lo hi k) ∧ mapLS (clipTo l lo hi k) = clipQTo l lo hi k
  | 0, _ => ⟨⟨fun p h => by simp [clipTo] at h, fun s h => by simp [clipTo] at h⟩, rfl⟩
  | k + 1, hk => by
    obtain ⟨h1, h2⟩ := clipTo_pq (lo := lo) (hi := hi) hf k (by omega)
    have := step_pq hf h1 (lo := lo) (hi := hi) (by omega : k < l.length) (fun e => by subst e; rfl)
    rw [if_neg (by omega)] at this
    rw [clipTo_succ, clipQTo_succ, ← h2]
    exact this
/-- P24.2 -/
theorem clip_law {l : List Pt} {lo hi : Int} (he : lineE l lo hi = 0) : (clipR l lo hi).map (List.map Spot.pq) = clipQ l lo hi ∧ ∀ part ∈ clipR l lo hi, ∀ s ∈ part, s.rt := by
  obtain ⟨-, -, -, hf⟩ := lineE_zero.1 he
  unfold clipR
  rw [if_pos he]
  unfold clipL clipQ
  by_cases h0 : l.length = 0
  · rw [h0]
    exact ⟨rfl, fun p h => by simp [clipTo, endS] at h⟩
  · obtain ⟨n, hn⟩ : ∃ n, l.length = n + 1 := ⟨l.length - 1, by omega⟩
    obtain ⟨h1, h2⟩ := clipTo_pq (lo := lo) (hi := hi) hf n (by omega)
    have := step_pq hf h1 (lo := lo) (hi := hi) (by omega : n < l.length) (fun e => by subst e; rfl)
    rw [if_pos (by omega)] at this
    rw [hn, clipTo_succ, clipQTo_succ, ← h2, ← this.2]
    exact ⟨rfl, (endS_rt this.1).1⟩
end Go.Proofs.Ytjcgkhcbdbbdkaa
