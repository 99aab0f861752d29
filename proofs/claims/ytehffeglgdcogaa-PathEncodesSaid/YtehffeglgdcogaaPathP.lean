/-
  Paths as numbers, in plain Lean: what Decode and Encode compute, and that they are inverse.
-/
import Derived.Test.YtehffeglgdcogaaPPut
namespace Go.Proofs.Ytehffeglgdcogaa
open Go.RowKit

/-- n points behind a -/
def ptsS : Nat → Pt → List Int → Except Int (List Pt × List Int)
  | 0, _, l => .ok ([], l)
  | n + 1, a, l => match l with
    | [] => .error 2
    | x :: l => if inm (a.x + zag x) = false then .error 8 else match l with
      | [] => .error 2
      | y :: l => if inm (a.y + zag y) = false then .error 8 else
        match ptsS n ⟨a.x + zag x, a.y + zag y⟩ l with
        | .error e => .error e
        | .ok (ps, r) => .ok (⟨a.x + zag x, a.y + zag y⟩ :: ps, r)
/-- a command of a kind, and its points -/
def cmdS (k low high : Int) (a : Pt) : List Int → Except Int (List Pt × List Int)
  | [] => .error 2
  | c :: l => if c % 8 ≠ k ∨ c / 8 < low ∨ high < c / 8 then .error 3 else ptsS (c / 8).toNat a l
def endS (kind : Int) (p : List Pt) (l : List Int) : Except Int (List Pt × List Int) :=
  if kind = 3 then match l with
    | [] => .error 2
    | c :: l => if c = 15 then .ok (p, l) else .error 3
  else .ok (p, l)
/-- a path of lines, or of polygons -/
def pathS (kind : Int) (a : Pt) (l : List Int) : Except Int (List Pt × List Int) :=
  match cmdS 1 1 1 a l with
  | .error e => .error e
  | .ok (p, l) => match cmdS 2 (kind - 1) 536870912 (lastPt a p) l with
    | .error e => .error e
    | .ok (q, l) => endS kind (p ++ q) l
def decG : Nat → Int → Pt → List Int → Except Int (List (List Pt))
  | 0, _, _, _ => .ok []
  | f + 1, kind, a, l => match pathS kind a l with
    | .error e => .error e
    | .ok (p, []) => .ok [p]
    | .ok (p, c :: l) => match decG f kind (lastPt a p) (c :: l) with
      | .error e => .error e
      | .ok ps => .ok (p :: ps)
def dec1 (l : List Int) : Except Int (List (List Pt)) :=
  match cmdS 1 1 536870912 ⟨0, 0⟩ l with
  | .error e => .error e
  | .ok (p, []) => .ok [p]
  | .ok (_, _ :: _) => .error 3
def decS (kind : Int) (l : List Int) : Except Int (List (List Pt)) :=
  if kind < 1 ∨ 3 < kind then .error 1 else if kind = 1 then dec1 l else decG (l.length + 1) kind ⟨0, 0⟩ l

def encG (kind : Int) : Pt → List (List Pt) → List Int
  | _, [] => []
  | a, p :: ps => 9 :: putPts (p.take 1) a ++ (((p.length - 1 : Nat) : Int) * 8 + 2) :: putPts (p.drop 1) (lastPt a (p.take 1)) ++ (if kind = 3 then [15] else []) ++ encG kind (lastPt a p) ps
def encS (kind : Int) : List (List Pt) → List Int
  | [] => []
  | p :: ps => if kind = 1 then ((((p.length : Nat) : Int) * 8 + 1) :: putPts p ⟨0, 0⟩) else encG kind ⟨0, 0⟩ (p :: ps)

theorem zig_zag (n : Int) (h : 0 ≤ n) : zig (zag n) = n := by unfold zig zag; split <;> split <;> omega
theorem inm_iff {n : Int} : inm n = true ↔ -1048576 ≤ n ∧ n ≤ 1048576 := by simp [inm]
theorem ptsS_ok : ∀ (n : Nat) (a : Pt) (l : List Int) (ps : List Pt) (r : List Int), (∀ x ∈ l, 0 ≤ x) → ptsS n a l = .ok (ps, r) → l = putPts ps a ++ r ∧ ps.length = n ∧ ∀ p ∈ ps, Near p
  | 0, a, l, ps, r, _, h => by
    simp only [ptsS, Except.ok.injEq, Prod.mk.injEq] at h
    obtain ⟨rfl, rfl⟩ := h
    exact ⟨rfl, rfl, fun p hp => by simp at hp⟩
  | n + 1, a, [], ps, r, _, h => by simp [ptsS] at h
  | n + 1, a, [x], ps, r, _, h => by
    simp only [ptsS] at h
    split at h <;> simp at h
  | n + 1, a, x :: y :: l, ps, r, hl, h => by
    simp only [ptsS] at h
    split at h
    · simp at h
    · split at h
      · simp at h
      · rename_i hx hy
        cases hq : ptsS n ⟨a.x + zag x, a.y + zag y⟩ l with
        | error e => rw [hq] at h; simp at h
        | ok q =>
          obtain ⟨qs, r'⟩ := q
          rw [hq] at h
          simp only [Except.ok.injEq, Prod.mk.injEq] at h
          obtain ⟨rfl, rfl⟩ := h
          obtain ⟨e1, e2, e3⟩ := ptsS_ok n _ l qs r' (fun z hz => hl z (by simp [hz])) hq
          have hx' := inm_iff.1 (by simpa using hx)
          have hy' := inm_iff.1 (by simpa using hy)
          refine ⟨?_, by simp [e2], ?_⟩
          · simp only [putPts, List.cons_append]
            rw [← e1, show a.x + zag x - a.x = zag x by omega, show a.y + zag y - a.y = zag y by omega, zig_zag x (hl x (by simp)), zig_zag y (hl y (by simp))]
          · intro p hp
            rcases List.mem_cons.1 hp with rfl | hp
            · exact ⟨hx', hy'⟩
            · exact e3 p hp
theorem ptsS_put : ∀ (ps : List Pt) (a : Pt) (r : List Int), (∀ p ∈ ps, Near p) → ptsS ps.length a (putPts ps a ++ r) = .ok (ps, r)
  | [], a, r, _ => rfl
  | p :: ps, a, r, h => by
    obtain ⟨h1, h2⟩ := h p (by simp)
    have e1 : a.x + zag (zig (p.x - a.x)) = p.x := by rw [zag_zig]; omega
    have e2 : a.y + zag (zig (p.y - a.y)) = p.y := by rw [zag_zig]; omega
    simp only [putPts, List.cons_append, List.length_cons, ptsS]
    rw [e1, e2, if_neg (by rw [inm_iff.2 h1]; decide), if_neg (by rw [inm_iff.2 h2]; decide), ptsS_put ps p r fun q hq => h q (by simp [hq])]
theorem ptsS_len : ∀ (n : Nat) (a : Pt) (l : List Int) (ps : List Pt) (r : List Int), ptsS n a l = .ok (ps, r) → r.length ≤ l.length ∧ ps.length = n ∧ 2 * n + r.length = l.length
  | 0, a, l, ps, r, h => by
    simp only [ptsS, Except.ok.injEq, Prod.mk.injEq] at h
    obtain ⟨rfl, rfl⟩ := h
    exact ⟨Nat.le_refl _, rfl, by omega⟩
  | n + 1, a, [], ps, r, h => by simp [ptsS] at h
  | n + 1, a, [x], ps, r, h => by
    simp only [ptsS] at h
    split at h <;> simp at h
  | n + 1, a, x :: y :: l, ps, r, h => by
    simp only [ptsS] at h
    split at h
    · simp at h
    · split at h
      · simp at h
      · cases hq : ptsS n ⟨a.x + zag x, a.y + zag y⟩ l with
        | error e => rw [hq] at h; simp at h
        | ok q =>
          obtain ⟨qs, r'⟩ := q
          rw [hq] at h
          simp only [Except.ok.injEq, Prod.mk.injEq] at h
          obtain ⟨rfl, rfl⟩ := h
          obtain ⟨e1, e2, e3⟩ := ptsS_len n _ l qs r' hq
          simp only [List.length_cons]
          omega

theorem cmdS_ok {k low high : Int} {a : Pt} {l : List Int} {ps : List Pt} {r : List Int} (hl : ∀ x ∈ l, 0 ≤ x) (h : cmdS k low high a l = .ok (ps, r)) : l = ((ps.length : Int) * 8 + k) :: putPts ps a ++ r ∧ low ≤ (ps.length : Int) ∧ (ps.length : Int) ≤ high ∧ ∀ p ∈ ps, Near p := by
  cases l with
  | nil => simp [cmdS] at h
  | cons c l =>
    simp only [cmdS] at h
    split at h
    · simp at h
    · rename_i hc
      obtain ⟨e1, e2, e3⟩ := ptsS_ok _ _ _ _ _ (fun z hz => hl z (by simp [hz])) h
      have h0 := hl c (by simp)
      refine ⟨?_, by omega, by omega, e3⟩
      rw [List.cons_append, ← e1]
      congr 1
      omega
theorem cmdS_put {k low high : Int} {a : Pt} {ps : List Pt} {r : List Int} (hk : 0 ≤ k ∧ k < 8) (h1 : low ≤ (ps.length : Int)) (h2 : (ps.length : Int) ≤ high) (hn : ∀ p ∈ ps, Near p) : cmdS k low high a (((ps.length : Int) * 8 + k) :: putPts ps a ++ r) = .ok (ps, r) := by
  rw [List.cons_append]
  simp only [cmdS]
  rw [if_neg (by omega), show (((ps.length : Int) * 8 + k) / 8).toNat = ps.length by omega]
  exact ptsS_put ps a r hn
theorem cmdS_len {k low high : Int} {a : Pt} {l : List Int} {ps : List Pt} {r : List Int} (h : cmdS k low high a l = .ok (ps, r)) : r.length < l.length ∧ ps.length ≤ l.length := by
  cases l with
  | nil => simp [cmdS] at h
  | cons c l =>
    simp only [cmdS] at h
    split at h
    · simp at h
    · have := ptsS_len _ _ _ _ _ h
      simp only [List.length_cons]
      omega

theorem lastPt_app (a : Pt) (p q : List Pt) : lastPt (lastPt a p) q = lastPt a (p ++ q) := by
  cases q with
  | nil => simp [lastPt]
  | cons x q => simp [lastPt, List.getLast?_append]

theorem pathS_ok {kind : Int} {a : Pt} {l : List Int} {p : List Pt} {r : List Int} (hl : ∀ x ∈ l, 0 ≤ x) (h : pathS kind a l = .ok (p, r)) :
    l = 9 :: putPts (p.take 1) a ++ (((p.length - 1 : Nat) : Int) * 8 + 2) :: putPts (p.drop 1) (lastPt a (p.take 1)) ++ (if kind = 3 then [15] else []) ++ r ∧ kind ≤ (p.length : Int) ∧ ∀ x ∈ p, Near x := by
  unfold pathS at h
  cases h1 : cmdS 1 1 1 a l with
  | error e => rw [h1] at h; simp at h
  | ok v =>
    obtain ⟨p1, l1⟩ := v
    rw [h1] at h
    dsimp only at h
    obtain ⟨e1, e2, e3, e4⟩ := cmdS_ok hl h1
    have hl1 : ∀ x ∈ l1, 0 ≤ x := fun x hx => hl x (by rw [e1]; simp [hx])
    obtain ⟨x, rfl⟩ : ∃ x, p1 = [x] := List.length_eq_one_iff.1 (by omega)
    cases h2 : cmdS 2 (kind - 1) 536870912 (lastPt a [x]) l1 with
    | error e => rw [h2] at h; simp at h
    | ok v =>
      obtain ⟨q, l2⟩ := v
      rw [h2] at h
      dsimp only at h
      obtain ⟨g1, g2, g3, g4⟩ := cmdS_ok hl1 h2
      have hq : p = x :: q ∧ l2 = (if kind = 3 then [15] else []) ++ r := by
        unfold endS at h
        by_cases hk3 : kind = 3
        · rw [if_pos hk3] at h ⊢
          cases l2 with
          | nil => simp at h
          | cons c l2 =>
            dsimp only at h
            by_cases hc : c = 15
            · rw [if_pos hc] at h
              simp only [Except.ok.injEq, Prod.mk.injEq] at h
              obtain ⟨rfl, rfl⟩ := h
              exact ⟨rfl, by rw [hc]; rfl⟩
            · rw [if_neg hc] at h; simp at h
        · rw [if_neg hk3] at h ⊢
          simp only [Except.ok.injEq, Prod.mk.injEq] at h
          obtain ⟨rfl, rfl⟩ := h
          exact ⟨rfl, rfl⟩
      obtain ⟨rfl, rfl⟩ := hq
      refine ⟨?_, by simp only [List.length_cons]; omega, ?_⟩
      · simp only [List.take_succ_cons, List.take_zero, List.drop_succ_cons, List.drop_zero, List.length_cons, Nat.add_sub_cancel]
        rw [e1, g1]
        simp
      · intro y hy
        rcases List.mem_cons.1 hy with rfl | hy
        · exact e4 y (by simp)
        · exact g4 y hy
theorem pathS_put {kind : Int} {a : Pt} {p : List Pt} {r : List Int} (hk : 1 < kind) (hp : kind ≤ (p.length : Int)) (hb : p.length ≤ 1000) (hn : ∀ x ∈ p, Near x) :
    pathS kind a (9 :: putPts (p.take 1) a ++ (((p.length - 1 : Nat) : Int) * 8 + 2) :: putPts (p.drop 1) (lastPt a (p.take 1)) ++ (if kind = 3 then [15] else []) ++ r) = .ok (p, r) := by
  cases p with
  | nil => simp at hp; omega
  | cons x q =>
    simp only [List.take_succ_cons, List.take_zero, List.drop_succ_cons, List.drop_zero, List.length_cons, Nat.add_sub_cancel]
    have h1 := cmdS_put (k := 1) (low := 1) (high := 1) (a := a) (ps := [x]) (r := ((q.length : Int) * 8 + 2) :: putPts q (lastPt a [x]) ++ (if kind = 3 then [15] else []) ++ r) ⟨by decide, by decide⟩ (by simp) (by simp) (fun y hy => hn y (by rw [List.mem_singleton.1 hy]; simp))
    have h2 := cmdS_put (k := 2) (low := kind - 1) (high := 536870912) (a := lastPt a [x]) (ps := q) (r := (if kind = 3 then [15] else []) ++ r) ⟨by decide, by decide⟩ (by simp only [List.length_cons] at hp; omega) (by simp only [List.length_cons] at hb; omega) (fun y hy => hn y (by simp [hy]))
    unfold pathS
    have e : (9 :: putPts [x] a ++ ((q.length : Int) * 8 + 2) :: putPts q (lastPt a [x]) ++ (if kind = 3 then [15] else []) ++ r) = ((([x] : List Pt).length : Int) * 8 + 1) :: putPts [x] a ++ (((q.length : Int) * 8 + 2) :: putPts q (lastPt a [x]) ++ (if kind = 3 then [15] else []) ++ r) := by simp
    rw [e, h1]
    dsimp only
    have e2 : (((q.length : Int) * 8 + 2) :: putPts q (lastPt a [x]) ++ (if kind = 3 then [15] else []) ++ r) = (((q.length : Int) * 8 + 2) :: putPts q (lastPt a [x]) ++ ((if kind = 3 then [15] else []) ++ r)) := by simp
    rw [e2, h2]
    dsimp only
    unfold endS
    by_cases hk3 : kind = 3
    · rw [if_pos hk3, if_pos hk3]; rfl
    · rw [if_neg hk3, if_neg hk3]; rfl
theorem pathS_len {kind : Int} {a : Pt} {l : List Int} {p : List Pt} {r : List Int} (h : pathS kind a l = .ok (p, r)) : r.length < l.length ∧ p.length ≤ 2 * l.length ∧ p ≠ [] := by
  unfold pathS at h
  cases h1 : cmdS 1 1 1 a l with
  | error e => rw [h1] at h; simp at h
  | ok v =>
    obtain ⟨p1, l1⟩ := v
    rw [h1] at h
    dsimp only at h
    have e1 := cmdS_len h1
    have e0 : p1 ≠ [] := by
      cases l with
      | nil => simp [cmdS] at h1
      | cons c l =>
        simp only [cmdS] at h1
        split at h1
        · simp at h1
        · have := ptsS_len _ _ _ _ _ h1
          intro e
          rw [e] at this
          simp at this
          omega
    cases h2 : cmdS 2 (kind - 1) 536870912 (lastPt a p1) l1 with
    | error e => rw [h2] at h; simp at h
    | ok v =>
      obtain ⟨q, l2⟩ := v
      rw [h2] at h
      dsimp only at h
      have e2 := cmdS_len h2
      unfold endS at h
      split at h
      · cases l2 with
        | nil => simp at h
        | cons c l2 =>
          dsimp only at h
          split at h
          · simp only [Except.ok.injEq, Prod.mk.injEq] at h
            obtain ⟨rfl, rfl⟩ := h
            simp only [List.length_append, List.length_cons] at *
            refine ⟨by omega, by omega, by simp [e0]⟩
          · simp at h
      · simp only [Except.ok.injEq, Prod.mk.injEq] at h
        obtain ⟨rfl, rfl⟩ := h
        simp only [List.length_append] at *
        exact ⟨by omega, by omega, by simp [e0]⟩

theorem decG_ok {kind : Int} (hk : 1 < kind) : ∀ (f : Nat) (a : Pt) (l : List Int) (ps : List (List Pt)), l.length < f → (∀ x ∈ l, 0 ≤ x) → decG f kind a l = .ok ps → l = encG kind a ps ∧ ps ≠ [] ∧ ∀ p ∈ ps, kind ≤ (p.length : Int) ∧ ∀ x ∈ p, Near x
  | 0, a, l, ps, hf, _, _ => by omega
  | f + 1, a, l, ps, hf, hl, h => by
    simp only [decG] at h
    cases h1 : pathS kind a l with
    | error e => rw [h1] at h; simp at h
    | ok v =>
      obtain ⟨p, r⟩ := v
      rw [h1] at h
      obtain ⟨e1, e2, e3⟩ := pathS_ok hl h1
      have hlen := pathS_len h1
      cases r with
      | nil =>
        simp only [Except.ok.injEq] at h
        subst h
        refine ⟨by rw [e1]; simp [encG], by simp, fun q hq => ?_⟩
        rw [List.mem_singleton.1 hq]
        exact ⟨e2, e3⟩
      | cons c r =>
        dsimp only at h
        cases h2 : decG f kind (lastPt a p) (c :: r) with
        | error e => rw [h2] at h; simp at h
        | ok qs =>
          rw [h2] at h
          simp only [Except.ok.injEq] at h
          subst h
          obtain ⟨g1, g2, g3⟩ := decG_ok hk f _ (c :: r) qs (by omega) (fun x hx => hl x (by rw [e1]; simp only [List.mem_append]; exact .inr hx)) h2
          refine ⟨by rw [e1, g1]; simp [encG], by simp, fun q hq => ?_⟩
          rcases List.mem_cons.1 hq with rfl | hq
          · exact ⟨e2, e3⟩
          · exact g3 q hq
theorem encG_ne {kind : Int} {a : Pt} {p : List Pt} {ps : List (List Pt)} : ∃ c r, encG kind a (p :: ps) = c :: r := ⟨9, _, by simp only [encG, List.cons_append]; rfl⟩
theorem decG_put {kind : Int} (hk : 1 < kind) : ∀ (ps : List (List Pt)) (f : Nat) (a : Pt), ps ≠ [] → (encG kind a ps).length < f → (∀ p ∈ ps, kind ≤ (p.length : Int) ∧ p.length ≤ 1000 ∧ ∀ x ∈ p, Near x) → decG f kind a (encG kind a ps) = .ok ps
  | [], _, _, h, _, _ => absurd rfl h
  | p :: ps, 0, a, _, hf, _ => by omega
  | p :: ps, f + 1, a, _, hf, h => by
    obtain ⟨h1, h2, h3⟩ := h p (by simp)
    have hp := pathS_put (a := a) (r := encG kind (lastPt a p) ps) hk h1 h2 h3
    have hlen := pathS_len hp
    have e : encG kind a (p :: ps) = (9 :: putPts (p.take 1) a ++ (((p.length - 1 : Nat) : Int) * 8 + 2) :: putPts (p.drop 1) (lastPt a (p.take 1)) ++ (if kind = 3 then [15] else []) ++ encG kind (lastPt a p) ps) := rfl
    rw [← e] at hp hlen
    simp only [decG]
    rw [hp]
    cases ps with
    | nil => rfl
    | cons q qs =>
      obtain ⟨c, r, hc⟩ := encG_ne (kind := kind) (a := lastPt a p) (p := q) (ps := qs)
      have ih := decG_put hk (q :: qs) f (lastPt a p) (by simp) (by omega) (fun p hp => h p (by simp [hp]))
      rw [hc] at ih ⊢
      dsimp only
      rw [ih]
/-- P9.4: what is decoded, and encoded, is the same numbers -/
theorem dec_enc {kind : Int} {l : List Int} {ps : List (List Pt)} (hl : ∀ x ∈ l, 0 ≤ x) (h : decS kind l = .ok ps) :
    (1 ≤ kind ∧ kind ≤ 3) ∧ encS kind ps = l ∧ ps ≠ [] ∧ (kind = 1 → ps.length = 1) ∧ ∀ p ∈ ps, kind ≤ (p.length : Int) ∧ ∀ x ∈ p, Near x := by
  unfold decS at h
  split at h
  · simp at h
  · rename_i hk
    split at h
    · rename_i h1
      subst h1
      unfold dec1 at h
      cases h2 : cmdS 1 1 536870912 ⟨0, 0⟩ l with
      | error e => rw [h2] at h; simp at h
      | ok v =>
        obtain ⟨p, r⟩ := v
        rw [h2] at h
        cases r with
        | nil =>
          simp only [Except.ok.injEq] at h
          subst h
          obtain ⟨e1, e2, e3, e4⟩ := cmdS_ok hl h2
          refine ⟨⟨by omega, by omega⟩, by rw [e1]; simp [encS], by simp, by simp, fun q hq => ?_⟩
          rw [List.mem_singleton.1 hq]
          exact ⟨e2, e4⟩
        | cons c r => simp at h
    · rename_i h1
      obtain ⟨e1, e2, e3⟩ := decG_ok (by omega) _ _ _ _ (by omega) hl h
      refine ⟨⟨by omega, by omega⟩, ?_, e2, fun h => absurd h h1, e3⟩
      cases ps with
      | nil => exact absurd rfl e2
      | cons p ps => simp only [encS, if_neg h1]; exact e1.symm
/-- P9.4: what is encoded is decoded -/
theorem enc_dec {kind : Int} {ps : List (List Pt)} (hk : 1 ≤ kind ∧ kind ≤ 3) (hne : ps ≠ []) (h1 : kind = 1 → ps.length = 1) (h : ∀ p ∈ ps, kind ≤ (p.length : Int) ∧ p.length ≤ 1000 ∧ ∀ x ∈ p, Near x) : decS kind (encS kind ps) = .ok ps := by
  cases ps with
  | nil => exact absurd rfl hne
  | cons p ps =>
    unfold decS
    rw [if_neg (by omega)]
    by_cases hk1 : kind = 1
    · obtain rfl : ps = [] := by
        have := h1 hk1
        cases ps with
        | nil => rfl
        | cons q qs => simp at this
      obtain ⟨g1, g2, g3⟩ := h p (by simp)
      rw [if_pos hk1]
      simp only [encS, if_pos hk1]
      have := cmdS_put (k := 1) (low := 1) (high := 536870912) (a := ⟨0, 0⟩) (ps := p) (r := []) ⟨by decide, by decide⟩ (by omega) (by omega) g3
      rw [List.append_nil] at this
      unfold dec1
      rw [this]
    · rw [if_neg hk1]
      simp only [encS, if_neg hk1]
      exact decG_put (by omega) _ _ _ (by simp) (Nat.lt_succ_self _) h
end Go.Proofs.Ytehffeglgdcogaa
