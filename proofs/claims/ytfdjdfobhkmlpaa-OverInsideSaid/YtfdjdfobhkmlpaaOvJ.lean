/-
  Overzooming, in plain Lean: of paths that lie in the window all is left.
-/
import Derived.Test.YtfdjdfobhkmlpaaChecked
import Derived.Test.YtfdjdfobhkmlpaaOvQ
import Derived.Test.YtfdjdfobhkmlpaaOvG
import Derived.Test.YtfdjdfobhkmlpaaSimpA
namespace Go.Proofs.Ytfdjdfobhkmlpaa
open Go.RowKit Go.Lib B

def putPt (l : List Pt) (p : Pt) : List Pt := if l.getLast? = some p then l else l ++ [p]
def ddPt (l : List Pt) : List Pt := l.foldl putPt []
theorem ddPt_snoc (l : List Pt) (p : Pt) : ddPt (l ++ [p]) = putPt (ddPt l) p := by unfold ddPt; rw [List.foldl_append]; rfl
theorem cu_dd (l : List Pt) : ∀ k, k ≤ l.length → compactUpTo l.toArray k = ddPt (l.take k)
  | 0, _ => by simp [compactUpTo, ddPt]
  | k + 1, h => by
    have ih := cu_dd l k (by omega)
    have e1 : l.toArray[k]! = l[k]'(by omega) := by simp [show k < l.length by omega]
    rw [cu_succ, List.take_succ_eq_append_getElem (by omega), ddPt_snoc, ← ih, e1]
    unfold putPt
    cases k with
    | zero => rw [keeps_zero]; simp [compactUpTo]
    | succ k =>
      rw [last_cu]
      have e2 : l.toArray[k]! = l[k]'(by omega) := by simp [show k < l.length by omega]
      by_cases hk : keeps l.toArray (k + 1) = true
      · rw [if_pos hk, if_neg]
        intro h2
        unfold keeps at hk
        rw [decide_eq_true_eq] at hk
        rcases hk with hk | hk
        · omega
        · rw [Nat.add_sub_cancel] at hk
          rw [e1] at hk
          exact hk (Option.some.inj h2).symm
      · rw [if_neg hk, if_pos, List.append_nil]
        unfold keeps at hk
        rw [decide_eq_true_eq] at hk
        rw [Nat.add_sub_cancel, e1] at hk
        have : l.toArray[k]! = l[k + 1]'(by omega) := by
          refine Classical.byContradiction fun h2 => hk (.inr fun h3 => h2 h3.symm)
        rw [this]
theorem compact_dd (l : List Pt) : compact l = ddPt l := by
  unfold compact
  rw [cu_dd l _ (Nat.le_refl _), List.take_length]
theorem simple_dd (l : List Pt) : simple l false = ddPt l := by
  unfold simple
  rw [if_neg (by decide), compact_dd]
theorem ddPt_dd (l : List Pt) : ddPt (ddPt l) = ddPt l := by
  have key : ∀ k, k ≤ l.length → ddPt (ddPt (l.take k)) = ddPt (l.take k) := by
    intro k
    induction k with
    | zero => intro _; simp [ddPt]
    | succ k ih =>
      intro h
      have ih := ih (by omega)
      rw [List.take_succ_eq_append_getElem (by omega), ddPt_snoc]
      by_cases hl : (ddPt (l.take k)).getLast? = some (l[k]'(by omega))
      · have : putPt (ddPt (l.take k)) (l[k]'(by omega)) = ddPt (l.take k) := by unfold putPt; rw [if_pos hl]
        rw [this, ih]
      · have : putPt (ddPt (l.take k)) (l[k]'(by omega)) = ddPt (l.take k) ++ [l[k]'(by omega)] := by unfold putPt; rw [if_neg hl]
        rw [this, ddPt_snoc, ih, this]
  have := key l.length (Nat.le_refl _)
  rwa [List.take_length] at this
theorem wholeSpot_inj {p q : Pt} (h : wholeSpot p = wholeSpot q) : p = q := by
  obtain ⟨a, b⟩ := p
  obtain ⟨c, d⟩ := q
  unfold wholeSpot at h
  injection h with h1 h2
  injection h1 with h1
  injection h2 with h2
  dsimp only at h1 h2
  rw [h1, h2]
theorem putS_wh (m : List Pt) (p : Pt) : putS (m.map wholeSpot) (wholeSpot p) = (putPt m p).map wholeSpot := by
  unfold putS putPt
  rw [List.getLast?_map]
  by_cases h : m.getLast? = some p
  · rw [if_pos h, h, Option.map_some, if_pos rfl]
  · rw [if_neg h, if_neg, List.map_append]
    · rfl
    · intro h2
      cases hm : m.getLast? with
      | none => rw [hm] at h2; cases h2
      | some q =>
        rw [hm, Option.map_some] at h2
        have := wholeSpot_inj (Option.some.inj h2)
        subst this
        exact h hm
theorem wantS_dd (l : List Pt) : wantS l = (ddPt l).map wholeSpot := by
  have key : ∀ (l m : List Pt), (l.map wholeSpot).foldl putS (m.map wholeSpot) = (l.foldl putPt m).map wholeSpot := by
    intro l
    induction l with
    | nil => intro m; rfl
    | cons p l ih => intro m; rw [List.map_cons, List.foldl_cons, putS_wh, ih]; rfl
  exact key l []
theorem ddPt_mem {l : List Pt} : ∀ p ∈ ddPt l, p ∈ l := by
  have key : ∀ (l m : List Pt), ∀ p ∈ l.foldl putPt m, p ∈ m ∨ p ∈ l := by
    intro l
    induction l with
    | nil => intro m p h; exact .inl h
    | cons q l ih =>
      intro m p h
      rcases ih _ p h with h | h
      · unfold putPt at h
        split at h
        · exact .inl h
        · rcases List.mem_append.1 h with h | h
          · exact .inl h
          · rw [List.mem_singleton.1 h]; exact .inr (by simp)
      · exact .inr (by simp [h])
  intro p h
  rcases key l [] p h with h | h
  · simp at h
  · exact h
theorem wholeSpot_round {p : Pt} (h : p.far = false) : (wholeSpot p).round = p := by
  obtain ⟨w1, w2⟩ := wholeSpot_rt h
  obtain ⟨x, y⟩ := p
  have a1 := w1.1
  have a2 := w1.2
  unfold wholeSpot at a1 a2
  dsimp only at a1 a2
  unfold wholeSpot Spot.round Fr.round
  dsimp only
  rw [if_pos a1, if_pos a2]
  simp
/-- lines that lie in the window: all is left -/
theorem inside_line {z : Zm} {e : Int} {l : List Pt} (hz : zright z e = true) (h0 : 0 < l.length) (hb : ∀ p ∈ l, (-1048576 ≤ p.x ∧ p.x ≤ 1048576) ∧ -1048576 ≤ p.y ∧ p.y ≤ 1048576)
    (hin : ∀ p ∈ l, (scl z e p).inside (-z.b) (e + z.b) = true) : lineL z e l = if 2 ≤ (simple (l.map (scl z e)) false).length then [simple (l.map (scl z e)) false] else [] := by
  obtain ⟨h1, h2, -, -, h5, h6, -⟩ := zright_iff hz
  have hf : ∀ p ∈ l.map (scl z e), p.far = false := by
    intro p hp
    obtain ⟨q, hq, rfl⟩ := List.mem_map.1 hp
    exact scl_far hz (hb q hq).1 (hb q hq).2
  have he : lineE (l.map (scl z e)) (-z.b) (e + z.b) = 0 := by
    refine lineE_zero.2 ⟨by omega, ?_, ?_, hf⟩
    · unfold inw; rw [decide_eq_true (show -4503599627370496 ≤ -z.b by omega), decide_eq_true (show -z.b ≤ 4503599627370496 by omega)]; rfl
    · unfold inw; rw [decide_eq_true (show -4503599627370496 ≤ e + z.b by omega), decide_eq_true (show e + z.b ≤ 4503599627370496 by omega)]; rfl
  unfold lineL
  rw [whole_self he (by rw [List.length_map]; exact h0) (fun p hp => by obtain ⟨q, hq, rfl⟩ := List.mem_map.1 hp; exact hin q hq), wantS_dd, simple_dd]
  generalize l.map (scl z e) = m at *
  unfold linesN
  have hr : ((ddPt m).map wholeSpot).map Spot.round = ddPt m := by
    rw [List.map_map]
    have : ∀ p ∈ ddPt m, (Spot.round ∘ wholeSpot) p = p := fun p hp => wholeSpot_round (hf p (ddPt_mem p hp))
    rw [List.map_congr_left this, List.map_id']
  rw [List.map_singleton, hr, simple_dd, ddPt_dd, List.filter_cons]
  by_cases h : 2 ≤ (ddPt m).length
  · rw [if_pos (decide_eq_true h), if_pos h]; rfl
  · rw [if_neg (by rw [decide_eq_true_eq]; exact h), if_neg h]; rfl
def wantP (ty : Int) (z : Zm) (e : Int) (l : List Pt) : List Pt := if ty = 2 then simple (l.map (scl z e)) false else l.map (scl z e)
def wantL (ty : Int) (z : Zm) (e : Int) (A : List (List Pt)) : List (List Pt) := (A.map (wantP ty z e)).filter fun l => decide (ty ≤ (l.length : Int))
def AllIn (z : Zm) (e : Int) (A : List (List Pt)) : Prop := ∀ l ∈ A, ∀ p ∈ l, (scl z e p).inside (-z.b) (e + z.b) = true
theorem pright_len {ty : Int} {A : List PRow} (h : pright ty A = 0) : 1 ≤ ty ∧ ty ≤ 3 ∧ ∀ r ∈ A, ty ≤ (r.l.length : Int) := by
  unfold pright at h
  split at h
  · omega
  · rename_i h1
    split at h
    · omega
    · split at h
      · omega
      · rename_i h3
        refine ⟨by omega, by omega, fun r hr => ?_⟩
        rw [← Int.not_lt]
        exact fun h4 => h3 ⟨r, hr, h4⟩
theorem inside_law2 {z : Zm} {e : Int} {A : List PRow} (hz : zright z e = true) (hp : pright 2 A = 0) (hin : AllIn z e (A.map PRow.l)) : lnL z e (A.map PRow.l) = wantL 2 z e (A.map PRow.l) := by
  obtain ⟨-, -, hb⟩ := pright_in hp
  obtain ⟨-, -, hl⟩ := pright_len hp
  clear hp
  unfold lnL wantL
  induction A with
  | nil => rfl
  | cons r A ih =>
    have ih := ih (fun l hl' => hin l (by simp at hl' ⊢; exact .inr hl')) (fun q hq => hb q (by simp [hq])) (fun q hq => hl q (by simp [hq]))
    have h0 := hl r (by simp)
    rw [List.map_cons, List.flatMap_cons, ih, inside_line hz (by omega) (hb r (by simp)) (fun p hp => hin r.l (by simp) p hp), List.map_cons, List.filter_cons]
    have ew : wantP 2 z e r.l = simple (r.l.map (scl z e)) false := by unfold wantP; rw [if_pos rfl]
    rw [ew]
    by_cases h : 2 ≤ (simple (r.l.map (scl z e)) false).length
    · rw [if_pos h, if_pos (by rw [decide_eq_true_eq]; omega)]; rfl
    · rw [if_neg h, if_neg (by rw [decide_eq_true_eq]; omega)]; rfl
theorem inside_law1 {z : Zm} {e : Int} {A : List PRow} (hp : pright 1 A = 0) (hin : AllIn z e (A.map PRow.l)) : ptL z e (A.map PRow.l) = wantL 1 z e (A.map PRow.l) := by
  obtain ⟨-, h1, -⟩ := pright_in hp
  obtain ⟨-, -, hl⟩ := pright_len hp
  obtain ⟨r, rfl⟩ := List.length_eq_one_iff.1 (h1 rfl)
  have h0 := hl r (by simp)
  have e1 : ptsIn z e r.l = r.l.map (scl z e) := by
    unfold ptsIn
    rw [List.filter_eq_self]
    intro p hp
    obtain ⟨q, hq, rfl⟩ := List.mem_map.1 hp
    exact hin r.l (by simp) q hq
  unfold ptL wantL wantP
  rw [List.map_singleton, List.headD_cons, e1, if_neg, List.map_singleton, if_neg (by decide), List.filter_cons, if_pos]
  · rfl
  · rw [decide_eq_true_eq, List.length_map]; exact h0
  · intro h2
    have := congrArg List.length h2
    rw [List.length_map, List.length_nil] at this
    omega
end Go.Proofs.Ytfdjdfobhkmlpaa
