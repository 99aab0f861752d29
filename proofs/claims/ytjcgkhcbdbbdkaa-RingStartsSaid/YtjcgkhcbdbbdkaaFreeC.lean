/-
  The same law, in a loop: the variable's slot may hold what the round before left. No program is named here.
-/
import Derived.Test.YtjcgkhcbdbbdkaaFreeB
namespace Go.Proofs.Ytjcgkhcbdbbdkaa.B
open Go.RowKit
variable {P : Program} {Q : Exit → Act → World → Prop}
theorem wp_region_free1At {id : Nat} {a : Act} {w : World} {l : List Oper} (f : FA) (n : Nat) (chain : List Nat) (hm : P.follows .mixedOrders = true) (hB : freeB1 l.toArray n chain f.i = true)
    (hA : IsAlloc P l.toArray Q f)
    (hQ : ∀ (c : List PanicEntry) (a : Act) (d : Option Tmp) (v : Value) (w : World), Q (.panic c) (a.put d v) w → Q (.panic c) a w)
    (u : Value) (hu : a.put f.d u = a)
    (h : Fr1 P l.toArray Q (fun a' w' => wpList P l.toArray Q (l.drop n) a' w') f w.heap.size chain w.drew [] a) : (Code.region id l.toArray true).wp P Q a w := by
  simp only [freeB1, Bool.and_eq_true, decide_eq_true_eq] at hB
  obtain ⟨⟨⟨⟨⟨hsel, hn⟩, hs⟩, hc⟩, hol⟩, hok⟩ := hB
  have inv0 : HeadInv .any l.toArray n (Array.replicate l.toArray.size false) :=
    ⟨by simp, fun j oj _ hl => (by rw [getD_replicate_false] at hl; cases hl), fun t _ ht => getD_in (by simpa using ht) (getD_replicate_false _ _)⟩
  have H := fr1_held hsel hs hc hn hQ hA (chain.length + 1) chain none _ w.drew [] a u w.drew hok inv0 (Nat.le_refl _) (fun p hp => by simp at hp) (Grow.refl _) trivial h
  rw [hu] at H
  refine wp_region_any hm ?_
  have hdl : (l.drop n).length = l.toArray.size - n := by simp
  have := wpAny_of_HL (P := P) (Q := Q) (g := l.toArray.size - n) (fun listed a' w' hL => by
    have := wpAny_of_seq (P := P) (md := .any) (Q' := Q) (l.drop n) n listed a' w' (fun j => by simp [List.getElem?_drop]) (by rw [hdl]; exact hL.1) hL.2
    rwa [hdl] at this) _ _ _ _ H
  rw [hol, show n + (l.toArray.size - n) = l.toArray.size by omega] at this
  exact this
end Go.Proofs.Ytjcgkhcbdbbdkaa.B
