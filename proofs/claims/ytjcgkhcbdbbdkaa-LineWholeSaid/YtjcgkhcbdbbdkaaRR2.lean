/-
  The reference's rings, second part: the state of a half.
-/
import Derived.Test.YtjcgkhcbdbbdkaaChecked
import Derived.Test.YtjcgkhcbdbbdkaaRL6
import Derived.Test.YtjcgkhcbdbbdkaaRR1
import Derived.Test.YtjcgkhcbdbbdkaaRngC
import Derived.Deep.MidRow
namespace Go.Proofs.Ytjcgkhcbdbbdkaa
open Go.RowKit B

def half1Q (c : Int) (up ab : Bool) (p q : PtQ) : List PtQ :=
  if up = true then ((if inQ p.turn.x c ab = true then [p.turn] else []) ++ (if inQ p.turn.x c ab ≠ inQ q.turn.x c ab then [crossQ p.turn q.turn c] else [])).map PtQ.turn
  else (if inQ p.x c ab = true then [p] else []) ++ (if inQ p.x c ab ≠ inQ q.x c ab then [crossQ p q c] else [])
def halfQ (c : Int) (up ab : Bool) (l : List PtQ) : List PtQ := cycTo (half1Q c up ab) l l.length
theorem half1Q_len (c : Int) (up ab : Bool) (p q : PtQ) : (half1Q c up ab p q).length ≤ 2 := by
  unfold half1Q
  split <;> (try rw [List.length_map]) <;> (rw [List.length_append]; split <;> split <;> simp)

structure HSt (w0 : World) (ov av : Value) (out add : List PV) (K : Nat) (W : World) : Prop where
  gr : Grow w0 W
  oo : W.ownsRow w0.heap.size 37 8 ov out.length (PVs out)
  oa : W.ownsRow w0.heap.size 37 8 av add.length (PVs add)
  ne : ∀ k, av.ownBlock = some k → ov.ownBlock ≠ some k
  vo : ∀ p ∈ out, p.rd W (OffB ov av) K
  va : ∀ p ∈ add, p.rd W (OffB ov av) K
theorem HSt.tr {w0 : World} {ov av : Value} {out add : List PV} {K : Nat} {W W' : World} (h : HSt w0 ov av out add K W) (hg : Grow W W') : HSt w0 ov av out add K W' :=
  ⟨h.gr.tr hg, own_grow h.oo hg, own_grow h.oa hg, h.ne, fun p hp => (h.vo p hp).gr hg, fun p hp => (h.va p hp).gr hg⟩
theorem HSt.off {w0 : World} {ov av : Value} {out add : List PV} {K : Nat} {W : World} (h : HSt w0 ov av out add K W) {b : Nat} (hb : W.heap.size ≤ b) : OffB ov av b :=
  ⟨fun e => by have := (h.oo.lt b e.symm).2; omega, fun e => by have := (h.oa.lt b e.symm).2; omega⟩
theorem HSt.offlow {w0 : World} {ov av : Value} {out add : List PV} {K : Nat} {W : World} (h : HSt w0 ov av out add K W) {b : Nat} (hb : b < w0.heap.size) : OffB ov av b :=
  ⟨fun e => by have := (h.oo.lt b e.symm).1; omega, fun e => by have := (h.oa.lt b e.symm).1; omega⟩
theorem HSt.nadd {w0 : World} {ov av : Value} {out add : List PV} {K : Nat} {W : World} (h : HSt w0 ov av out add K W) : HSt w0 ov (.slice none 0 0) out [] K W := by
  have nn : ∀ b, some b ≠ (Value.slice none 0 0).ownBlock := fun b => by simp [Value.ownBlock]
  exact ⟨h.gr, h.oo, World.ownsRow_nil _ _ _ _, fun k hk => by simp [Value.ownBlock] at hk, fun p hp => (h.vo p hp).into fun b hb => ⟨hb.1, nn b⟩, fun p hp => by simp at hp⟩
/-- what is gathered for one edge becomes another row -/
theorem HSt.padd {w0 : World} {ov av av' : Value} {out add add' : List PV} {K : Nat} {W W' : World} (h : HSt w0 ov av out add K W)
    (hg : W.grownBy W' av.ownBlock) (ho : W'.ownsRow w0.heap.size 37 8 av' add'.length (PVs add')) (hf : Fresh W av av') (hx : ∀ p ∈ add', p.rd W (OffB ov av) K) : HSt w0 ov av' out add' K W' := by
  have pk : ov.ownBlock = none ∨ ov.ownBlock ≠ av.ownBlock := by
    cases e : ov.ownBlock with
    | none => exact .inl rfl
    | some k => exact .inr fun e2 => h.ne k e2.symm e
  have key : ∀ p : PV, p.rd W (OffB ov av) K → p.rd W' (OffB ov av') K := fun p hp => ((hp.both).by_ hg (fun b hb => hb.1.2)).into fun b hb => ⟨hb.1.1, hf.off hb.2 hb.1.2⟩
  refine ⟨grow_app h.gr hg (own_ge h.oa), h.oo.kept hg pk, ho, ?_, fun p hp => key p (h.vo p hp), fun p hp => key p (hx p hp)⟩
  intro k hk e
  rcases hf with e1 | ⟨j, e1, hj⟩
  · exact h.ne k (e1.symm.trans hk) e
  · rw [hk] at e1
    injection e1 with e1
    have := (h.oo.lt k e).2
    omega
/-- one more in the ring that comes out -/
theorem HSt.pout {w0 : World} {ov av ov' : Value} {out out' add : List PV} {K : Nat} {W W' : World} (h : HSt w0 ov av out add K W)
    (hg : W.grownBy W' ov.ownBlock) (ho : W'.ownsRow w0.heap.size 37 8 ov' out'.length (PVs out')) (hf : Fresh W ov ov') (hx : ∀ p ∈ out', p.rd W (OffB ov av) K) : HSt w0 ov' av out' add K W' := by
  have pk : av.ownBlock = none ∨ av.ownBlock ≠ ov.ownBlock := by
    cases e : av.ownBlock with
    | none => exact .inl rfl
    | some k => exact .inr fun e2 => h.ne k e e2.symm
  have key : ∀ p : PV, p.rd W (OffB ov av) K → p.rd W' (OffB ov' av) K := fun p hp => ((hp.both).by_ hg (fun b hb => hb.1.1)).into fun b hb => ⟨hf.off hb.2 hb.1.1, hb.1.2⟩
  refine ⟨grow_app h.gr hg (own_ge h.oo), ho, h.oa.kept hg pk, ?_, fun p hp => key p (hx p hp), fun p hp => key p (h.va p hp)⟩
  intro k hk e
  rcases hf with e1 | ⟨j, e1, hj⟩
  · exact h.ne k hk (e1.symm.trans e)
  · rw [e] at e1
    injection e1 with e1
    have := (h.oa.lt k hk).2
    omega
/-- a place is written into a row -/
theorem own_setPV {w : World} {base g n cap : Nat} {e : TypeId} {l : List PV} (h : w.ownsRow base e 8 (.slice (some ⟨g, 0, none⟩) n cap) n (PVs l)) {k : Nat} (_hk : k < l.length) (x : PV) :
    (w.setCells g (k * 8) x.cells).ownsRow base e 8 (.slice (some ⟨g, 0, none⟩) n cap) n (PVs (l.set k x)) ∧ w.grownBy (w.setCells g (k * 8) x.cells) (some g) := by
  have key : ∀ (vs : List Value) (o : Nat) (w : World) (xs : List Value), w.ownsRow base e 8 (.slice (some ⟨g, 0, none⟩) n cap) n xs →
      ∃ ys, (w.setCells g o vs).ownsRow base e 8 (.slice (some ⟨g, 0, none⟩) n cap) n ys ∧ w.grownBy (w.setCells g o vs) (some g) ∧ ∀ i, ys[i]? = if o ≤ i ∧ i < o + vs.length ∧ i < xs.length then vs[i - o]? else xs[i]? := by
    intro vs
    induction vs with
    | nil =>
      intro o w xs h
      exact ⟨xs, h, grown_of (Grow.refl w), fun i => by rw [if_neg (by simp; omega)]⟩
    | cons v vs ih =>
      intro o w xs h
      obtain ⟨h1, g1⟩ := h.stored o v
      obtain ⟨ys, h2, g2, h3⟩ := ih (o + 1) _ _ h1
      refine ⟨ys, h2, grown_tr g1 g2, fun i => ?_⟩
      rw [h3 i, List.length_set, List.getElem?_set, List.length_cons]
      by_cases hi : i < xs.length
      · by_cases h4 : o + 1 ≤ i ∧ i < o + 1 + vs.length ∧ i < xs.length
        · rw [if_pos h4, if_pos (by omega), show i - o = (i - (o + 1)) + 1 by omega, List.getElem?_cons_succ]
        · rw [if_neg h4]
          by_cases h5 : o = i
          · subst h5
            rw [if_pos rfl, if_pos hi, if_pos (by omega)]
            simp
          · rw [if_neg h5, if_neg (by omega)]
      · rw [if_neg (show ¬ (o + 1 ≤ i ∧ i < o + 1 + vs.length ∧ i < xs.length) from fun h => hi h.2.2), if_neg (show ¬ (o ≤ i ∧ i < o + (vs.length + 1) ∧ i < xs.length) from fun h => hi h.2.2)]
        by_cases h5 : o = i
        · subst h5
          rw [if_pos rfl, if_neg hi, List.getElem?_eq_none (by omega)]
        · rw [if_neg h5]
  obtain ⟨ys, h1, h2, h3⟩ := key x.cells (k * 8) w _ h
  refine ⟨own_eq h1 rfl ?_, h2⟩
  apply List.ext_getElem?
  intro i
  rw [h3 i, PVs_len]
  have hx : x.cells.length = 8 := rfl
  rw [hx]
  by_cases hi : i < l.length * 8
  · have hq : i / 8 < l.length := by omega
    have e1 : i = i / 8 * 8 + i % 8 := by omega
    have e2 : (PVs l)[i]? = (l[i / 8]).cells[i % 8]? := by
      have := flat_at PV.cells 8 PV.cells_len l (i / 8) (i % 8) hq (by omega)
      unfold PVs
      rw [← e1] at this
      exact this
    have e3 : (PVs (l.set k x))[i]? = ((l.set k x)[i / 8]'(by rw [List.length_set]; exact hq)).cells[i % 8]? := by
      have := flat_at PV.cells 8 PV.cells_len (l.set k x) (i / 8) (i % 8) (by rw [List.length_set]; exact hq) (by omega)
      unfold PVs
      rw [← e1] at this
      exact this
    rw [e2, e3, List.getElem_set]
    by_cases hc : k = i / 8
    · rw [if_pos hc, if_pos (by omega), show i - k * 8 = i % 8 by omega]
    · rw [if_neg hc, if_neg (by omega)]
  · rw [if_neg (by omega), List.getElem?_eq_none (by rw [PVs_len]; omega), List.getElem?_eq_none (by rw [PVs_len, List.length_set]; omega)]
end Go.Proofs.Ytjcgkhcbdbbdkaa
