/-
  XLexT's head-and-tail walk of a region that draws its order, in a function that defers: the results are read from variables whose addresses lie in slots that the region does not write. No program is named here.
-/
import Derived.Test.YtehffeglgdcogaaLexT
import Derived.Defers
namespace Go.Proofs.Ytehffeglgdcogaa.B
open Go.RowKit

section
variable {P : Program} {ops : Array Oper} {Q : Exit → Act → World → Prop}

theorem lexTD_held {n g : Nat} {Lq : Act → World → Prop} (hsel : Region.noSelect ops = true) (hs : Region.sinkB .any ops n = true) (hc : Region.chainB .any ops n = true) (hn : n < ops.size)
    (hQ : ∀ (i : Nat) (o : Oper), ops[i]? = some o → ∀ (c : List PanicEntry) (a : Act) (v : Value) (w : World), Q (.panic c) (a.put o.dst v) w → Q (.panic c) a w) :
    ∀ (ord : List Nat) (G : World → Prop) (listed : Array Bool) (a : Act) (w : World), lexOkT ops n g ord listed = true → HeadInv .any ops n listed → G w → LexT P ops Q Lq ord G a w →
      wpHL P ops Q n (fun listed' a' w' => Region.seqB .any ops g n listed' = true ∧ Lq a' w') G ord.length listed a w
  | [], G, listed, a, w, hok, _, _, h => ⟨hok, h⟩
  | i :: rest, G, listed, a, w, hok, inv, hG, h => by
    obtain ⟨o, ho, hcs⟩ := h
    simp only [lexOkT, ho, Bool.and_eq_true, decide_eq_true_eq] at hok
    obtain ⟨⟨hin, h1⟩, h2⟩ := hok
    rcases hcs with ⟨v, hy, hk⟩ | ⟨ht, hw⟩
    · split at h1
      · have hr : Region.ready .any ops listed = [i] := by simpa using h1
        have hir : i ∈ Region.ready .any ops listed := by rw [hr]; simp
        have ih := lexTD_held (Lq := Lq) hsel hs hc hn hQ rest G _ _ w h2 (inv.set hir hin) hG hk
        refine ⟨by rw [hr]; simp, fun j hj => ?_⟩
        rw [hr] at hj
        obtain rfl : j = i := by simpa using hj
        exact ⟨hin, hy.wpOp ho hG ⟨hG, ih⟩⟩
      · simp only [Bool.and_eq_true] at h1
        have hir : i ∈ Region.ready .any ops listed := by simpa using h1.2
        have ih := lexTD_held (Lq := Lq) hsel hs hc hn hQ rest G _ _ w h2 (inv.set hir hin) hG hk
        exact wpHL_first ho (Region.noSelect_spec hsel) hs hc hn hin (fun listed' a' w' hL => seqB_ready hL.1) (fun c a w => hQ i o ho c a v w) _ _ a w inv (Region.free_spec ho h1.1) hir hy hG ih
    · rw [if_pos ht] at h1
      have hr : Region.ready .any ops listed = [i] := by simpa using h1
      have hir : i ∈ Region.ready .any ops listed := by rw [hr]; simp
      refine ⟨by rw [hr]; simp, fun j hj => ?_⟩
      rw [hr] at hj
      obtain rfl : j = i := by simpa using hj
      refine ⟨hin, wpOp_mono (fun a' w' h' => ?_) hw⟩
      obtain ⟨G', hGG, hG', hl⟩ := h'
      exact ⟨hGG _ hG', wpHL_mono hGG _ _ _ _ (lexTD_held hsel hs hc hn hQ rest G' _ a' w' h2 (inv.set hir hin) hG' hl)⟩

theorem wp_region_lexTD {id : Nat} {a : Act} {w : World} {l : List Oper} (G : World → Prop) (h0 : G w.drew) (n : Nat) (ord : List Nat) (ok : Option Tmp → Bool) (hm : P.follows .mixedOrders = true) (hB : lexTB l.toArray n ord = true)
    (hok : l.all (fun o => ok o.dst) = true)
    (hQ : ∀ (c : List PanicEntry) (a : Act) (d : Option Tmp) (v : Value) (w : World), ok d = true → Q (.panic c) (a.put d v) w → Q (.panic c) a w)
    (h : LexT P l.toArray Q (fun a' w' => wpList P l.toArray Q (l.drop n) a' w') ord G a w.drew) : (Code.region id l.toArray true).wp P Q a w := by
  simp only [lexTB, Bool.and_eq_true, decide_eq_true_eq] at hB
  obtain ⟨⟨⟨⟨⟨hsel, hn⟩, hs⟩, hc⟩, hol⟩, hlex⟩ := hB
  have inv0 : HeadInv .any l.toArray n (Array.replicate l.toArray.size false) :=
    ⟨by simp, fun j oj _ hl => (by rw [getD_replicate_false] at hl; cases hl), fun t _ ht => getD_in (by simpa using ht) (getD_replicate_false _ _)⟩
  have hQ' : ∀ (i : Nat) (o : Oper), l.toArray[i]? = some o → ∀ (c : List PanicEntry) (a : Act) (v : Value) (w : World), Q (.panic c) (a.put o.dst v) w → Q (.panic c) a w := fun i o ho c a v w hh => by
    refine hQ c a o.dst v w ?_ hh
    rw [List.getElem?_toArray] at ho
    exact List.all_eq_true.1 hok o (List.mem_of_getElem? ho)
  have H := lexTD_held hsel hs hc hn hQ' ord G _ a w.drew hlex inv0 h0 h
  refine wp_region_any hm ?_
  have hdl : (l.drop n).length = l.toArray.size - n := by simp
  have := wpAny_of_HL (P := P) (Q := Q) (g := l.toArray.size - n) (fun listed a' w' hL => by
    have := wpAny_of_seq (P := P) (md := .any) (Q' := Q) (l.drop n) n listed a' w' (fun j => by simp [List.getElem?_drop]) (by rw [hdl]; exact hL.1) hL.2
    rwa [hdl] at this) _ _ _ _ H
  rw [hol, show n + (l.toArray.size - n) = l.toArray.size by omega] at this
  exact this
end

theorem leaves_same {P : Program} {fn : Func} {t1 t2 : Array Value} {R : Ending → World → Prop} (h : results fn t1 = results fn t2) : ∀ (ds : List Deferred) (u : FrameMode) (w : World), Leaves P fn t1 R ds u w = Leaves P fn t2 R ds u w
  | [], .returning, w => by simp only [Leaves, h]
  | [], .panicking _, w => rfl
  | [], .run, w => rfl
  | d :: ds, u, w => by
    have e : ∀ u w, Leaves P fn t1 R ds u w = Leaves P fn t2 R ds u w := leaves_same h ds
    simp only [Leaves, e]
end Go.Proofs.Ytehffeglgdcogaa.B
