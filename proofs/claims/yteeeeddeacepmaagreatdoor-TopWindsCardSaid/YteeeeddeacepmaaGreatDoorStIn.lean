import Derived.StillTailTactics
import Derived.OrdersIn
import Derived.TacticsIn
import Derived.RangeFuncNested
import Derived.RangeFuncBound
import Derived.RangeFuncCalls
import Derived.RangeFuncLeaves
import Derived.Shelf.Abstract
import Derived.Shelf.RegionOpen
import Derived.OwnWalkIn
import Derived.TacticsInMore
import Derived.LoopNIn
import Derived.LoopIn
import Derived.Test.YteeeeddeacepmaaGreatDoorChecked
import Derived.Test.YteeeeddeacepmaaGreatDoorCore
namespace Go.Proofs.YteeeeddeacepmaaGreatDoor
set_option maxRecDepth 100000
section
variable {n : Nat} {P : Program} {ops : Array Oper} {Q : Exit -> Act -> World -> Prop} {w : World}
theorem wpOpIn_of_stOp {i : Nat} {a : Act} {K : Act -> Prop} {K' : Act -> World -> Prop} (h : ∀ a, K a -> K' a w) (hh : stOp P ops w i K a) : wpOpIn Fence.wide n P ops Q i K' a w := by
 unfold stOp at hh; unfold wpOpIn
 cases ho : ops[i]? with
 | none => simp only [ho] at hh ⊢; exact h _ hh
 | some o =>
  simp only [ho] at hh ⊢
  split
  ·rename_i hw
   simp only [hw, if_true] at hh; unfold Oper.still at hh; unfold Oper.wpIn; refine ⟨fun _ _ => trivial, ?_⟩; rw [show Fence.wide.round = none from rfl, Oper.semAt_none]; generalize (execOp a.eval o).run P w = r at *
   cases r with
   | ok x w' =>
    cases x <;> simp only [Oper.stillUpon] at hh <;> simp only [Oper.uponIn]
    case value v => obtain ⟨rfl, h2⟩ := hh; exact h _ h2
    case skip => obtain ⟨rfl, h2⟩ := hh; exact h _ h2
    case enter f args =>
     obtain ⟨rfl, v, hc, hn⟩ := hh; refine ⟨fun _ => by simp [Fence.wide] at *, callsIn_wide.2 (hc.mono fun e w'' ⟨he, hw2⟩ => ?_)⟩; subst he hw2; exact h _ hn
   | halt x w' => simp only [Oper.stillUpon] at hh
  ·rename_i hw
   simp only [hw] at hh; exact ⟨fun _ _ => trivial, h _ hh⟩
theorem wpAnyIn_of_head {m g : Nat} {L : Array Bool -> Act -> Prop} (hL : ∀ listed a, L listed a -> wpAnyIn Fence.wide n P .any ops Q g listed a w) :
  ∀ (f : Nat) (listed : Array Bool) (a : Act), wpAnyL P .any ops w m L f listed a -> wpAnyIn Fence.wide n P .any ops Q (f + g) listed a w
 | 0, listed, a, h => by rw [Nat.zero_add]; exact hL _ _ h
 | f + 1, listed, a, h => by
  rw [show f + 1 + g = (f + g) + 1 by omega]; exact ⟨fun h0 => absurd h0 h.1, fun i hi => wpOpIn_of_stOp (fun a' h' => wpAnyIn_of_head hL f _ a' h') (h.2 i hi).2⟩
theorem wpAnyIn_of_seq {F : Fence} : ∀ (l : List Oper) (k : Nat) (listed : Array Bool) (a : Act) (w : World), (∀ j, l[j]? = ops[k + j]?) ->
  Region.seqB .any ops l.length k listed = true -> wpListIn F n P ops Q l a w -> wpAnyIn F n P .any ops Q l.length listed a w
 | [], _, _, _, _, _, hB, h => ⟨by simpa [Region.seqB] using hB, h⟩
 | o :: l, k, listed, a, w, hl, hB, h => by
  have h0 : ops[k]? = some o := by simpa using (hl 0).symm
  simp only [List.length_cons, Region.seqB, Bool.and_eq_true, decide_eq_true_eq] at hB; refine ⟨fun h1 => (by rw [hB.1] at h1; cases h1), fun i hi => ?_⟩; rw [hB.1] at hi; have hik : i = k := by simpa using hi
  subst hik; have hw : wpOpIn F n P ops Q i (wpListIn F n P ops Q l) a w := by unfold wpOpIn; simp only [h0]; exact h
  exact wpOpIn_mono (fun a' w' h' => wpAnyIn_of_seq l (i + 1) _ a' w' (fun j => by have := hl (j + 1); simpa [Nat.add_assoc, Nat.add_comm 1 j] using this) hB.2 h') hw
theorem wpIn_region_still_tail {id : Nat} {a : Act} {w : World} {l : List Oper} (m : Nat) (hm : P.follows .mixedOrders = true) (hB : Region.lexTailB .any l.toArray m = true)
  (h : wpStill P l.toArray w.drew (fun a' => wpListIn Fence.wide n P l.toArray Q (l.drop m) a' w.drew) (l.take m) a) : (Code.region id l.toArray true).wpIn Fence.wide n P Q a w := by
 simp only [Region.lexTailB, Bool.and_eq_true, decide_eq_true_eq] at hB; obtain ⟨⟨⟨⟨hsel, hn⟩, hs⟩, hc⟩, hlex⟩ := hB; have hn' : m < l.length := by simpa using hn
 have htl : (l.take m).length = m := by simp; omega
 have hdl : (l.drop m).length = l.toArray.size - m := by simp
 have inv0 : HeadInv .any l.toArray m (Array.replicate l.toArray.size false) :=
  ⟨by simp, fun j oj _ hl => (by rw [getD_replicate_false] at hl; cases hl), fun t _ ht => getD_in (by simpa using ht) (getD_replicate_false _ _)⟩
 have H := wpAnyL_lex (md := .any) (g := l.toArray.size - m) hsel hs hc hn (l.take m) 0 _ a (fun j hj => by
  have hj' : j < m := by rw [htl] at hj; exact hj
  simp [hj']) (by simpa using htl) inv0 (by rw [htl]; exact hlex) h
 refine wpIn_region_any hm ?_
 have := wpAnyIn_of_head (n := n) (Q := Q) (g := l.toArray.size - m) (fun listed a' hL => by
  have := wpAnyIn_of_seq (F := Fence.wide) (n := n) (Q := Q) (l.drop m) m listed a' { w with drawn := w.drawn + 1 } (fun j => by simp [List.getElem?_drop]) (by rw [hdl]; exact hL.1) hL.2
  rwa [hdl] at this) _ _ _ H
 rw [htl, show m + (l.toArray.size - m) = l.toArray.size by omega] at this; exact this
end
end Go.Proofs.YteeeeddeacepmaaGreatDoor
namespace Go.Proofs.YteeeeddeacepmaaGreatDoor
set_option maxRecDepth 100000
open Go.RowKit Go.Shelf
theorem abides_grow {β : Type} {B : Nat} {J : β -> World -> Prop} (h : AbidesFrom B J) {s : β} {W W' : World} (hs : J s W) (hg : Grow W W') : J s W' :=
 h s W W' none hs ⟨hg.os, hg.tape, hg.output, hg.size, fun k hk _ => hg.block k hk⟩ (fun r e => by cases e)
theorem blk_own {β : Type} {B : Nat} {t : TypeId} (base : Nat) (cs : β -> Array Value) : OwnFrom base (fun (s : β) W => W.heap[B]? = some (.cells (cs s) t (0, 0))) := by
 intro s W W' row hs hg hr; refine (hg.block B (lt_of_block hs) ?_).trans hs; intro e; obtain ⟨_, o, ho, hc⟩ := hr B e.symm; rw [hs] at ho
 cases ho
 cases hc
theorem blk_setA {W : World} {B : Nat} {cs : Array Value} {t : TypeId} (h : W.heap[B]? = some (.cells cs t (0, 0))) (j : Nat) (v : Value) : (W.setCell ⟨B, j, none⟩ v).heap[B]? = some (.cells (cs.setIfInBounds j v) t (0, 0)) := by
 simp [World.setCell, Array.getElem?_modify, h]
theorem blk_alA {W : World} {B : Nat} {o : Obj} (h : W.heap[B]? = some o) (o' : Obj) : (W.alloc o').heap[B]? = some o := (Below.heap_alloc W o' B (lt_of_block h)).trans h
end Go.Proofs.YteeeeddeacepmaaGreatDoor
