import Derived.Test.YteeeeddeacepmaaGreatDoorLinA
import Derived.Test.YteeeeddeacepmaaGreatDoorRngB
namespace Go.Proofs.YteeeeddeacepmaaGreatDoor
set_option maxRecDepth 100000
open Go.RowKit B
def Fresh (W : World) (v v' : Value) : Prop := v'.ownBlock = v.ownBlock ∨ ∃ k, v'.ownBlock = some k /\ W.heap.size <= k
structure LSt (w0 : World) (pb qb : Nat) (pv qv : Value) (rows : List SRow) (part : List Spot) (W : World) : Prop where
 bp : BoxH w0 pb #[pv] 604 W
 bq : BoxH w0 qb #[qv] 46 W
 ne : pb ≠ qb
 op : W.ownsRow w0.heap.size 46 1 pv rows.length (rows.map SRow.v)
 oq : W.ownsRow w0.heap.size 53 6 qv part.length (Spots part)
 pp : pv.ownBlock ≠ some pb /\ pv.ownBlock ≠ some qb
 qq : qv.ownBlock ≠ some pb /\ qv.ownBlock ≠ some qb
 pq : ∀ k, qv.ownBlock = some k -> pv.ownBlock ≠ some k
 each : ∀ r ∈ rows, Rd W (fun b => some b ≠ pv.ownBlock /\ some b ≠ qv.ownBlock /\ b ≠ pb /\ b ≠ qb) 6 r.v r.l.length (Spots r.l)
theorem Rd.and_lt0 {w : World} {S : Nat -> Prop} {size n : Nat} {v : Value} {xs : List Value} (h : Rd w S size v n xs) (h0 : 0 < size) : Rd w (fun b => S b /\ b < w.heap.size) size v n xs := by
 have hl := h.lt h0; obtain ⟨hl0, A, c, hv, h1, h2, h3, h4⟩ := h; refine ⟨hl0, A, c, hv, h1, h2, h3, fun hn => ?_⟩; obtain ⟨b, o, hA, hSb, hc⟩ := h4 hn; have hx : 0 < xs.length := by rw [hl0]; exact Nat.mul_pos hn h0
 exact ⟨b, o, hA, ⟨hSb, World.block_lt_of_cell? w _ (hc 0 xs[0] (List.getElem?_eq_getElem hx))⟩, hc⟩
theorem LSt.tr {w0 : World} {pb qb : Nat} {pv qv : Value} {rows : List SRow} {part : List Spot} {W W' : World} (h : LSt w0 pb qb pv qv rows part W) (hg : Grow W W') : LSt w0 pb qb pv qv rows part W' :=
 ⟨h.bp.tr hg, h.bq.tr hg, h.ne, own_grow h.op hg, own_grow h.oq hg, h.pp, h.qq, h.pq, fun r hr => (h.each r hr).gr2 (by decide) hg⟩
theorem Fresh.ne {W : World} {v v' : Value} {b : Nat} (h : Fresh W v v') (hb : b < W.heap.size) (hv : v.ownBlock ≠ some b) : v'.ownBlock ≠ some b := by
 rcases h with h | ⟨k, h, hk⟩
 ·rw [h]; exact hv
 ·rw [h]; intro e; injection e with e; omega
theorem Fresh.two {W W1 : World} {v v1 v2 : Value} (hs : W.heap.size <= W1.heap.size) (h1 : Fresh W v v1) (h2 : Fresh W1 v1 v2) : Fresh W v v2 := by
 rcases h2 with e | ⟨k, e, hk⟩
 ·rcases h1 with e1 | ⟨j, e1, hj⟩
  ·exact .inl (e.trans e1)
  ·exact .inr ⟨j, e.trans e1, hj⟩
 ·exact .inr ⟨k, e, Nat.le_trans hs hk⟩
theorem by_set {w : World} (b j : Nat) (v : Value) : w.grownBy (w.setCell ⟨b, j, none⟩ v) (some b) :=
 ⟨rfl, rfl, rfl, by rw [size_setCell]; exact Nat.le_refl _, fun k hk hne => by
  have e : b ≠ k := fun e => hne (by rw [e])
  simp [World.setCell, Array.getElem?_modify, e]⟩
theorem LSt.put {w0 : World} {pb qb : Nat} {pv qv qv' : Value} {rows : List SRow} {part part' : List Spot} {W W' : World} (h : LSt w0 pb qb pv qv rows part W)
  (hg : W.grownBy W' qv.ownBlock) (ho : W'.ownsRow w0.heap.size 53 6 qv' part'.length (Spots part')) (hf : Fresh W qv qv') :
  LSt w0 pb qb pv qv' rows part' (W'.setCell ⟨qb, 0, none⟩ qv') := by
 have hge : ∀ k, qv.ownBlock = some k -> w0.heap.size <= k := own_ge h.oq; have b1 := h.bp.by_ hg hge (fun e => h.qq.1 e.symm); have b2 := h.bq.by_ hg hge (fun e => h.qq.2 e.symm); have q1 : qv'.ownBlock ≠ some pb := hf.ne h.bp.lt h.qq.1; have q2 : qv'.ownBlock ≠ some qb := hf.ne h.bq.lt h.qq.2
 have pk : pv.ownBlock = none ∨ pv.ownBlock ≠ qv.ownBlock := by
  cases e : pv.ownBlock with
  | none => exact .inl rfl
  | some k => exact .inr fun e2 => h.pq k e2.symm e
 have op1 := h.op.kept hg pk; refine ⟨b1.other h.ne b2.2.1, ?_, h.ne, own_set op1 h.pp.2, own_set ho q2, h.pp, ⟨q1, q2⟩, ?_, ?_⟩
 ·have := b2.set 0 qv'
  simpa using this
 ·intro k hk e
  rcases hf with e1 | ⟨j, e1, hj⟩
  ·exact h.pq k (e1.symm.trans hk) e
  ·rw [hk] at e1
   injection e1 with e1
   have := (h.op.lt k e).2; omega
 ·intro r hr
  have h1 := ((h.each r hr).and_lt0 (by decide)).by_ (by decide) hg (fun b hb => hb.1.2.1)
  refine (h1.by_ (by decide) (by_set qb 0 qv') (fun b hb e => hb.1.2.2.2 (by injection e))).into fun b hb => ⟨hb.1.1, ?_, hb.1.2.2.1, hb.1.2.2.2⟩
  intro e; exact hf.ne hb.2 (fun e2 => hb.1.2.1 e2.symm) e.symm
theorem LSt.fin {w0 : World} {pb qb : Nat} {pv qv pv' : Value} {rows : List SRow} {part : List Spot} {W W' : World} (h : LSt w0 pb qb pv qv rows part W)
  (hg : W.grownBy W' pv.ownBlock) (ho : W'.ownsRow w0.heap.size 46 1 pv' (rows.length + 1) (rows.map SRow.v ++ [qv])) (hf : Fresh W pv pv') :
  LSt w0 pb qb pv' (.slice none 0 0) (rows ++ [⟨qv, part⟩]) [] ((W'.setCell ⟨pb, 0, none⟩ pv').setCell ⟨qb, 0, none⟩ (.slice none 0 0)) := by
 have hge : ∀ k, pv.ownBlock = some k -> w0.heap.size <= k := own_ge h.op; have b1 := h.bp.by_ hg hge (fun e => h.pp.1 e.symm); have b2 := h.bq.by_ hg hge (fun e => h.pp.2 e.symm); have p1 : pv'.ownBlock ≠ some pb := hf.ne h.bp.lt h.pp.1; have p2 : pv'.ownBlock ≠ some qb := hf.ne h.bq.lt h.pp.2; have b1' := b1.set 0 pv'; have b2' := (b2.other (j := 0) (v := pv') (fun e => h.ne e.symm) b1.2.1).set 0 (.slice none 0 0); refine ⟨?_, by simpa using b2', h.ne, ?_, ?_, ⟨p1, p2⟩, ⟨by simp [Value.ownBlock], by simp [Value.ownBlock]⟩, fun k hk => by simp [Value.ownBlock] at hk, ?_⟩
 ·have := b1'.other (j := 0) (v := .slice none 0 0) h.ne b2.2.1
  simpa using this
 ·exact own_eq (own_set (own_set ho p1) p2) (by simp) (by simp)
 ·exact World.ownsRow_nil _ _ _ _
 ·intro r hr
  have key : Rd W (fun b => some b ≠ pv.ownBlock /\ b ≠ pb /\ b ≠ qb) 6 r.v r.l.length (Spots r.l) := by
   rcases List.mem_append.1 hr with hr | hr
   ·exact (h.each r hr).into fun b hb => ⟨hb.1, hb.2.2.1, hb.2.2.2⟩
   ·rw [List.mem_singleton.1 hr]
    refine (Rd.own h.oq).into fun b hb => ⟨fun e => ?_, fun e => ?_, fun e => ?_⟩
    ·exact h.pq b hb.symm e.symm
    ·subst e; exact h.qq.1 hb.symm
    ·subst e; exact h.qq.2 hb.symm
  have h1 := (key.and_lt0 (by decide)).by_ (by decide) hg (fun b hb => hb.1.1); have h2 := h1.by_ (by decide) (by_set pb 0 pv') (fun b hb e => hb.1.2.1 (by injection e)); have h3 := h2.by_ (by decide) (by_set qb 0 (.slice none 0 0)) (fun b hb e => hb.1.2.2 (by injection e))
  refine h3.into fun b hb => ⟨fun e => hf.ne hb.2 (fun e2 => hb.1.1 e2.symm) e.symm, by simp [Value.ownBlock], hb.1.2.1, hb.1.2.2⟩
theorem LSt.nil {w0 : World} {pb qb : Nat} {W : World} (bp : BoxH w0 pb #[.slice none 0 0] 604 W) (bq : BoxH w0 qb #[.slice none 0 0] 46 W) (ne : pb ≠ qb) : LSt w0 pb qb (.slice none 0 0) (.slice none 0 0) [] [] W :=
 ⟨bp, bq, ne, World.ownsRow_nil _ _ _ _, World.ownsRow_nil _ _ _ _, ⟨by simp [Value.ownBlock], by simp [Value.ownBlock]⟩, ⟨by simp [Value.ownBlock], by simp [Value.ownBlock]⟩, fun k hk => by simp [Value.ownBlock] at hk, fun r hr => by simp at hr⟩
end Go.Proofs.YteeeeddeacepmaaGreatDoor
namespace Go.Proofs.YteeeeddeacepmaaGreatDoor
set_option maxRecDepth 100000
open Go.RowKit B
theorem Spot.split (x s : Spot) : s = x ∨ (x ≠ s /\ (((x.x.q == s.x.q) = false) ∨ (s.x.q = x.x.q /\ ((((x.x.r : Int) == s.x.r) = false) ∨ (s.x.r = x.x.r /\ ((((x.x.d : Int) == s.x.d) = false) ∨ (s.x.d = x.x.d /\ (((x.y.q == s.y.q) = false) ∨ (s.y.q = x.y.q /\ ((((x.y.r : Int) == s.y.r) = false) ∨ (s.y.r = x.y.r /\ (((x.y.d : Int) == s.y.d) = false)))))))))))) := by
 obtain ⟨⟨a, b, c⟩, ⟨d, e, f⟩⟩ := x; obtain ⟨⟨a', b', c'⟩, ⟨d', e', f'⟩⟩ := s; dsimp only
 by_cases h : (Spot.mk ⟨a, b, c⟩ ⟨d, e, f⟩) = ⟨⟨a', b', c'⟩, ⟨d', e', f'⟩⟩
 ·exact .inl h.symm
 ·refine .inr ⟨h, ?_⟩
  simp only [Spot.mk.injEq, Fr.mk.injEq] at h; simp only [beq_eq_false_iff_ne]; omega
end Go.Proofs.YteeeeddeacepmaaGreatDoor
namespace Go.Proofs.YteeeeddeacepmaaGreatDoor
set_option maxRecDepth 100000
open Go.RowKit B
end Go.Proofs.YteeeeddeacepmaaGreatDoor
