/-
  The reference's rings, first part: turn, in, cross. The reference's rings, second part: the state of a half. The reference's rings, third part: half. The reference's rings, fourth part: Clip.
-/
import Derived.Test.YtfdjdfobhkmlpaaChecked
import Derived.Test.YtfdjdfobhkmlpaaRLb
import Derived.Deep.Cut
import Derived.Test.YtfdjdfobhkmlpaaRLc
import Derived.Test.YtfdjdfobhkmlpaaRngA
import Derived.Deep.MidRow
import Derived.Laws.OwnMore
namespace Go.Proofs.Ytfdjdfobhkmlpaa
open Go.RowKit Go.Lib B

def PV.turn (p : PV) : PV := ⟨p.y, p.x⟩
def PtQ.turn (p : PtQ) : PtQ := ⟨p.y, p.x⟩
theorem PV.turn_q (p : PV) : p.turn.q = p.q.turn := rfl
theorem PV.rd.turn {p : PV} {w : World} {S : Nat → Prop} {k : Nat} (h : p.rd w S k) : p.turn.rd w S k := ⟨h.2, h.1⟩
/-- the cells of a place that lies in a box -/
theorem PV.at_ {p : PV} {W : World} {b : Nat} {t : TypeId} {fr : Nat × Nat} (h : W.heap[b]? = some (.cells p.cells.toArray t fr)) :
    W.cell? ⟨b, 0, none⟩ = some (.bool p.x.nu.p) ∧ W.cell? ⟨b, 1, none⟩ = some (.slice p.x.nu.A p.x.nu.n p.x.nu.c) ∧ W.cell? ⟨b, 2, none⟩ = some (.bool p.x.de.p) ∧ W.cell? ⟨b, 3, none⟩ = some (.slice p.x.de.A p.x.de.n p.x.de.c) ∧
    W.cell? ⟨b, 4, none⟩ = some (.bool p.y.nu.p) ∧ W.cell? ⟨b, 5, none⟩ = some (.slice p.y.nu.A p.y.nu.n p.y.nu.c) ∧ W.cell? ⟨b, 6, none⟩ = some (.bool p.y.de.p) ∧ W.cell? ⟨b, 7, none⟩ = some (.slice p.y.de.A p.y.de.n p.y.de.c) := by
  refine ⟨?_, ?_, ?_, ?_, ?_, ?_, ?_, ?_⟩ <;> (rw [cell_of_row _ _ _ _ _ _ h]; rfl)

def inQ (x : Rat) (c : Int) (ab : Bool) : Bool := if ab = true then decide ((c : Rat) ≤ x) else decide (x ≤ (c : Rat))
theorem inQ_cmp (x : Rat) (c : Int) (ab : Bool) : ((cmpR x c == 0) || (decide (0 < cmpR x c) == ab)) = inQ x c ab := by
  have e0 : (cmpR x c == 0) = decide (x = c) := by rw [Bool.eq_iff_iff, beq_iff_eq, cmpR_eq, decide_eq_true_eq]
  have e1 : decide (0 < cmpR x c) = decide ((c : Rat) < x) := by rw [decide_eq_decide, cmpR_gt]
  rw [e0, e1]
  unfold inQ
  cases ab with
  | true =>
    rw [if_pos rfl, Bool.eq_iff_iff]
    simp only [Bool.or_eq_true, decide_eq_true_eq, beq_iff_eq]
    grind
  | false =>
    rw [if_neg (by decide), Bool.eq_iff_iff]
    simp only [Bool.or_eq_true, decide_eq_true_eq, beq_iff_eq, decide_eq_false_iff_not]
    grind

def crossQ (p q : PtQ) (c : Int) : PtQ := ⟨(c : Rat), p.y + ((c : Rat) - p.x) / (q.x - p.x) * (q.y - p.y)⟩
end Go.Proofs.Ytfdjdfobhkmlpaa

namespace Go.Proofs.Ytfdjdfobhkmlpaa
open Go.RowKit B

def half1Q (c : Int) (up ab : Bool) (p q : PtQ) : List PtQ :=
  if up = true then ((if inQ p.turn.x c ab = true then [p.turn] else []) ++ (if inQ p.turn.x c ab ≠ inQ q.turn.x c ab then [crossQ p.turn q.turn c] else [])).map PtQ.turn
  else (if inQ p.x c ab = true then [p] else []) ++ (if inQ p.x c ab ≠ inQ q.x c ab then [crossQ p q c] else [])
def halfQ (c : Int) (up ab : Bool) (l : List PtQ) : List PtQ := cycTo (half1Q c up ab) l l.length
theorem half1Q_len (c : Int) (up ab : Bool) (p q : PtQ) : (half1Q c up ab p q).length ≤ 2 := by
  unfold half1Q
  split <;> (try rw [List.length_map]) <;> (rw [List.length_append]; split <;> split <;> simp)

/-- a place is written into a row -/
theorem own_setPV {w : World} {base g n cap : Nat} {e : TypeId} {l : List PV} (h : w.ownsRow base e 8 (.slice (some ⟨g, 0, none⟩) n cap) n (PVs l)) {k : Nat} (_hk : k < l.length) (x : PV) :
    (w.setCells g (k * 8) x.cells).ownsRow base e 8 (.slice (some ⟨g, 0, none⟩) n cap) n (PVs (l.set k x)) ∧ w.grownBy (w.setCells g (k * 8) x.cells) (some g) := by
  have key : ∀ (vs : List Value) (o : Nat) (w : World) (xs : List Value), w.ownsRow base e 8 (.slice (some ⟨g, 0, none⟩) n cap) n xs →
      ∃ ys, (w.setCells g o vs).ownsRow base e 8 (.slice (some ⟨g, 0, none⟩) n cap) n ys ∧ w.grownBy (w.setCells g o vs) (some g) ∧ ∀ i, ys[i]? = if o ≤ i ∧ i < o + vs.length ∧ i < xs.length then vs[i - o]? else xs[i]? := by
    intro vs
    induction vs with
    | nil =>
      intro o w xs h
      exact ⟨xs, h, grown_of (Grow.refl w), fun i => by rw [if_neg (by simp; omega)]⟩
    | cons v vs ih =>
      intro o w xs h
      obtain ⟨h1, g1⟩ := h.stored o v
      obtain ⟨ys, h2, g2, h3⟩ := ih (o + 1) _ _ h1
      refine ⟨ys, h2, grown_tr g1 g2, fun i => ?_⟩
      rw [h3 i, List.length_set, List.getElem?_set, List.length_cons]
      by_cases hi : i < xs.length
      · by_cases h4 : o + 1 ≤ i ∧ i < o + 1 + vs.length ∧ i < xs.length
        · rw [if_pos h4, if_pos (by omega), show i - o = (i - (o + 1)) + 1 by omega, List.getElem?_cons_succ]
        · rw [if_neg h4]
          by_cases h5 : o = i
          · subst h5
            rw [if_pos rfl, if_pos hi, if_pos (by omega)]
            simp
          · rw [if_neg h5, if_neg (by omega)]
      · rw [if_neg (show ¬ (o + 1 ≤ i ∧ i < o + 1 + vs.length ∧ i < xs.length) from fun h => hi h.2.2), if_neg (show ¬ (o ≤ i ∧ i < o + (vs.length + 1) ∧ i < xs.length) from fun h => hi h.2.2)]
        by_cases h5 : o = i
        · subst h5
          rw [if_pos rfl, if_neg hi, List.getElem?_eq_none (by omega)]
        · rw [if_neg h5]
  obtain ⟨ys, h1, h2, h3⟩ := key x.cells (k * 8) w _ h
  refine ⟨own_eq h1 rfl ?_, h2⟩
  apply List.ext_getElem?
  intro i
  rw [h3 i, PVs_len]
  have hx : x.cells.length = 8 := rfl
  rw [hx]
  by_cases hi : i < l.length * 8
  · have hq : i / 8 < l.length := by omega
    have e1 : i = i / 8 * 8 + i % 8 := by omega
    have e2 : (PVs l)[i]? = (l[i / 8]).cells[i % 8]? := by
      have := flat_at PV.cells 8 PV.cells_len l (i / 8) (i % 8) hq (by omega)
      unfold PVs
      rw [← e1] at this
      exact this
    have e3 : (PVs (l.set k x))[i]? = ((l.set k x)[i / 8]'(by rw [List.length_set]; exact hq)).cells[i % 8]? := by
      have := flat_at PV.cells 8 PV.cells_len (l.set k x) (i / 8) (i % 8) (by rw [List.length_set]; exact hq) (by omega)
      unfold PVs
      rw [← e1] at this
      exact this
    rw [e2, e3, List.getElem_set]
    by_cases hc : k = i / 8
    · rw [if_pos hc, if_pos (by omega), show i - k * 8 = i % 8 by omega]
    · rw [if_neg hc, if_neg (by omega)]
  · rw [if_neg (by omega), List.getElem?_eq_none (by rw [PVs_len]; omega), List.getElem?_eq_none (by rw [PVs_len, List.length_set]; omega)]
end Go.Proofs.Ytfdjdfobhkmlpaa

namespace Go.Proofs.Ytfdjdfobhkmlpaa
open Go.RowKit B

theorem PV.mid {l : List PV} {w wr : World} {b o : Nat} (hw : Grow w wr) (hb : b < w.heap.size) (hc : ∀ j u, (PVs l)[j]? = some u → w.cell? ⟨b, o + j, none⟩ = some u) {i : Nat} (hi : i < l.length) :
    wr.cell? ⟨b, o + i * 8, none⟩ = some (.bool l[i].x.nu.p) ∧ wr.cell? ⟨b, o + i * 8 + 1, none⟩ = some (.slice l[i].x.nu.A l[i].x.nu.n l[i].x.nu.c) ∧ wr.cell? ⟨b, o + i * 8 + 2, none⟩ = some (.bool l[i].x.de.p) ∧ wr.cell? ⟨b, o + i * 8 + 3, none⟩ = some (.slice l[i].x.de.A l[i].x.de.n l[i].x.de.c) ∧
    wr.cell? ⟨b, o + i * 8 + 4, none⟩ = some (.bool l[i].y.nu.p) ∧ wr.cell? ⟨b, o + i * 8 + 5, none⟩ = some (.slice l[i].y.nu.A l[i].y.nu.n l[i].y.nu.c) ∧ wr.cell? ⟨b, o + i * 8 + 6, none⟩ = some (.bool l[i].y.de.p) ∧ wr.cell? ⟨b, o + i * 8 + 7, none⟩ = some (.slice l[i].y.de.A l[i].y.de.n l[i].y.de.c) := by
  have e := flat_cells PV.cells_len hw hb hc hi
  exact ⟨e 0 _ rfl, e 1 _ rfl, e 2 _ rfl, e 3 _ rfl, e 4 _ rfl, e 5 _ rfl, e 6 _ rfl, e 7 _ rfl⟩

theorem fold_cells (p : PV) : (List.foldl (fun (cs : Array Value) (x : Value × Nat) => cs.setIfInBounds x.snd x.fst) #[Value.bool false, .slice none 0 0, .bool false, .slice none 0 0, .bool false, .slice none 0 0, .bool false, .slice none 0 0] p.cells.zipIdx).toList = p.cells := rfl
theorem own_formP {w : World} {base size n : Nat} {e : TypeId} {v : Value} {xs : List Value} (h : w.ownsRow base e size v n xs) (hn : 0 < n) : ∃ g cap, v = .slice (some ⟨g, 0, none⟩) n cap := by
  obtain ⟨A, c, hv⟩ := own_slice h
  rcases h.2 with ⟨h', _⟩ | ⟨g, cap, cur, h', _⟩
  · rw [hv] at h'
    injection h' with _ h2 _
    omega
  · exact ⟨g, cap, h'⟩
theorem turn_step {ad : List PV} {j : Nat} (hj : j < ad.length) : ((ad.take j).map PV.turn ++ ad.drop j).length = ad.length ∧ ((ad.take j).map PV.turn ++ ad.drop j)[j]? = some ad[j] ∧ ((ad.take j).map PV.turn ++ ad.drop j).set j ad[j].turn = (ad.take (j + 1)).map PV.turn ++ ad.drop (j + 1) := by
  have hl : ((ad.take j).map PV.turn).length = j := by rw [List.length_map, List.length_take]; omega
  refine ⟨by rw [List.length_append, hl, List.length_drop]; omega, ?_, ?_⟩
  · rw [List.getElem?_append_right (by omega), hl, Nat.sub_self, List.getElem?_drop, Nat.add_zero, List.getElem?_eq_getElem hj]
  · rw [List.set_append_right _ _ (by omega), hl, Nat.sub_self, List.drop_eq_getElem_cons hj, List.set_cons_zero, List.take_succ_eq_append_getElem hj, List.map_append, List.append_assoc]
    rfl
/-- what one edge leaves, X and Y not in turn -/
def half1R (c : Int) (ab : Bool) (p q : PtQ) : List PtQ := (if inQ p.x c ab = true then [p] else []) ++ (if inQ p.x c ab ≠ inQ q.x c ab then [crossQ p q c] else [])
theorem half1Q_up (c : Int) (ab : Bool) (p q : PtQ) : half1Q c true ab p q = (half1R c ab p.turn q.turn).map PtQ.turn := rfl
theorem half1Q_no (c : Int) (ab : Bool) (p q : PtQ) : half1Q c false ab p q = half1R c ab p q := rfl

end Go.Proofs.Ytfdjdfobhkmlpaa

namespace Go.Proofs.Ytfdjdfobhkmlpaa
open Go.RowKit B

theorem halfQ_len (c : Int) (up ab : Bool) (l : List PtQ) : (halfQ c up ab l).length ≤ 2 * l.length := by
  have key : ∀ k, (cycTo (half1Q c up ab) l k).length ≤ 2 * k := by
    intro k
    induction k with
    | zero => simp [cycTo]
    | succ k ih =>
      unfold cycTo at ih ⊢
      rw [List.range_succ, List.flatMap_append, List.length_append]
      have h2 : ([k].flatMap (cycAt (half1Q c up ab) l)).length ≤ 2 := by
        simp only [List.flatMap_cons, List.flatMap_nil, List.append_nil]
        unfold cycAt
        split
        · exact half1Q_len _ _ _ _ _
        · simp
      omega
  exact key _
def clip25Q (l : List Pt) (lo hi : Int) : List PtQ := halfQ hi true false (halfQ lo true true (halfQ hi false false (halfQ lo false true (l.map Pt.pq))))

end Go.Proofs.Ytfdjdfobhkmlpaa
