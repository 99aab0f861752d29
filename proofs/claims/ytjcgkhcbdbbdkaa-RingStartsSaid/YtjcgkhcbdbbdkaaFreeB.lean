/-
  The same law, where one variable is laid. No program is named here.
-/
import Derived.Test.YtjcgkhcbdbbdkaaFreeA
namespace Go.Proofs.Ytjcgkhcbdbbdkaa.B
open Go.RowKit
section
variable {P : Program} {ops : Array Oper} {Q : Exit → Act → World → Prop}

def Fr1 (P : Program) (ops : Array Oper) (Q : Exit → Act → World → Prop) (L : Act → World → Prop) (f : FA) (base : Nat) : List Nat → World → List (Nat × Nat) → Act → Prop
  | [], w, I, a => ∀ b W, Grow w W → BoxAt f base W I b → L (a.put f.d (ptrTo b)) W
  | c :: cs, w, I, a => ∃ o, ops[c]? = some o ∧ o.dst ≠ f.d ∧
      ((∃ v, (∀ x, YieldsIf P ops (Grow w) o v (a.put f.d x)) ∧ Fr1 P ops Q L f base cs w I (a.put o.dst v)) ∨
       (turns o = true ∧ ∀ x W, Grow w W → wpOp P ops Q c (fun a' W' => ∃ v, a' = (a.put f.d x).put o.dst v ∧ Grow W W' ∧ Fr1 P ops Q L f base cs W' ((W.heap.size, W'.heap.size) :: I) (a.put o.dst v)) (a.put f.d x) W))

def pend1 (f : FA) : Option Nat → List Nat
  | none => [f.i]
  | some _ => []

theorem fr1_held {n g : Nat} {L : Act → World → Prop} {f : FA} {base : Nat} (hsel : Region.noSelect ops = true) (hs : Region.sinkB .any ops n = true) (hc : Region.chainB .any ops n = true) (hn : n < ops.size)
    (hQ : ∀ (c : List PanicEntry) (a : Act) (d : Option Tmp) (v : Value) (w : World), Q (.panic c) (a.put d v) w → Q (.panic c) a w)
    (hA : IsAlloc P ops Q f) :
    ∀ (k : Nat) (chain : List Nat) (s : Option Nat) (listed : Array Bool) (w : World) (I : List (Nat × Nat)) (a : Act) (x : Value) (W : World),
      okFT ops n g k chain (pend1 f s) listed = true → HeadInv .any ops n listed → base ≤ w.heap.size → (∀ p ∈ I, p.2 ≤ w.heap.size) → Grow w W →
      Laid f base W I x s → Fr1 P ops Q L f base chain w I a →
      wpHL P ops Q n (fun listed' a' w' => Region.seqB .any ops g n listed' = true ∧ L a' w') (Grow w) k listed (a.put f.d x) W := by
  intro k
  induction k with
  | zero =>
    intro chain s listed w I a x W hok inv hb hI hg h1 h
    simp only [okFT, Bool.and_eq_true, List.isEmpty_iff] at hok
    obtain ⟨⟨hch, hp⟩, hseq⟩ := hok
    subst hch
    cases s with
    | none => simp [pend1] at hp
    | some b =>
      obtain ⟨rfl, h1⟩ := h1
      exact ⟨hseq, h b W hg h1⟩
  | succ k ih =>
    intro chain s listed w I a x W hok inv hb hI hg h1 h
    have lay : ∀ i ∈ Region.ready .any ops listed, i < n → i ∈ pend1 f s → okFT ops n g k chain ((pend1 f s).erase i) (listed.setIfInBounds i true) = true →
        wpOp P ops Q i (fun a' w' => Grow w w' ∧ wpHL P ops Q n (fun listed' a' w' => Region.seqB .any ops g n listed' = true ∧ L a' w') (Grow w) k (listed.setIfInBounds i true) a' w') (a.put f.d x) W := by
      intro i hir hin hip hok'
      have hbW : base ≤ W.heap.size := Nat.le_trans hb hg.size
      have hIW : ∀ p ∈ I, W.heap.size < p.1 ∨ p.2 ≤ W.heap.size := fun p hp => .inr (Nat.le_trans (hI p hp) hg.size)
      cases s with
      | none =>
        simp only [pend1, List.mem_cons, List.not_mem_nil, or_false] at hip
        subst hip
        refine hA.step _ W ⟨hg.al _, ?_⟩
        rw [put_put]
        exact ih chain (some W.heap.size) _ w I a _ _ (by simpa [pend1] using hok') (inv.set hir hin) hb hI (hg.al _) ⟨rfl, heap_alloc_new W _, hbW, hIW⟩ h
      | some b => simp [pend1] at hip
    cases chain with
    | nil =>
      simp only [okFT, Bool.and_eq_true, List.all_eq_true, decide_eq_true_eq] at hok
      obtain ⟨⟨hr, hall⟩, hp⟩ := hok
      refine ⟨fun e => by rw [e] at hr; simp at hr, fun i hir => ?_⟩
      have hip : i ∈ pend1 f s := by simpa using hall i hir
      exact ⟨(hp i hip).1, lay i hir (hp i hip).1 hip (hp i hip).2⟩
    | cons c cs =>
      obtain ⟨o, ho, hd1, hcs⟩ := h
      simp only [okFT, ho, Bool.and_eq_true, decide_eq_true_eq] at hok
      obtain ⟨hcn, hok⟩ := hok
      have puto : ∀ v, (a.put f.d x).put o.dst v = (a.put o.dst v).put f.d x := fun v => put_comm _ hd1.symm _ _
      rcases hcs with ⟨v, hy, hk⟩ | ⟨ht, hw⟩
      · by_cases ht : turns o = true
        · rw [if_pos ht] at hok
          simp only [Bool.and_eq_true, List.all_eq_true, decide_eq_true_eq] at hok
          obtain ⟨⟨⟨hr, hall⟩, hok1⟩, hp⟩ := hok
          refine ⟨fun e => by rw [e] at hr; simp at hr, fun i hir => ?_⟩
          have hi2 := hall i hir
          simp only [Bool.or_eq_true, beq_iff_eq] at hi2
          rcases hi2 with rfl | hip
          · refine ⟨hcn, (hy x).wpOp ho hg ⟨hg, ?_⟩⟩
            rw [puto]
            exact ih cs s _ w I _ _ _ hok1 (inv.set hir hcn) hb hI hg h1 hk
          · have hip : i ∈ pend1 f s := by simpa using hip
            exact ⟨(hp i hip).1, lay i hir (hp i hip).1 hip (hp i hip).2⟩
        · rw [if_neg ht] at hok
          simp only [Bool.and_eq_true] at hok
          obtain ⟨⟨hfr, hct⟩, hok1⟩ := hok
          have hir : c ∈ Region.ready .any ops listed := by simpa using hct
          have hk2 := ih cs s _ w I _ x W hok1 (inv.set hir hcn) hb hI hg h1 hk
          rw [← puto] at hk2
          exact wpHL_first ho (Region.noSelect_spec hsel) hs hc hn hcn (fun listed' a' w' hL => seqB_ready hL.1) (fun c a w => hQ c a o.dst v w) _ _ _ W inv (Region.free_spec ho hfr) hir (hy x) hg hk2
      · rw [if_pos ht] at hok
        simp only [Bool.and_eq_true, List.all_eq_true, decide_eq_true_eq] at hok
        obtain ⟨⟨⟨hr, hall⟩, hok1⟩, hp⟩ := hok
        refine ⟨fun e => by rw [e] at hr; simp at hr, fun i hir => ?_⟩
        have hi2 := hall i hir
        simp only [Bool.or_eq_true, beq_iff_eq] at hi2
        rcases hi2 with rfl | hip
        · refine ⟨hcn, wpOp_mono (fun a' W' h' => ?_) (hw x W hg)⟩
          obtain ⟨v, rfl, hgW, hk⟩ := h'
          refine ⟨hg.tr hgW, ?_⟩
          rw [puto]
          refine wpHL_mono (fun X hX => (hg.tr hgW).tr hX) _ _ _ _ (ih cs s _ W' _ _ x W' hok1 (inv.set hir hcn) (Nat.le_trans hb (hg.tr hgW).size) (fun p hp => ?_) (Grow.refl _) (h1.call hgW) hk)
          rcases List.mem_cons.1 hp with rfl | hp
          · exact Nat.le_refl _
          · exact Nat.le_trans (hI p hp) (hg.tr hgW).size
        · have hip : i ∈ pend1 f s := by simpa using hip
          exact ⟨(hp i hip).1, lay i hir (hp i hip).1 hip (hp i hip).2⟩

def freeB1 (ops : Array Oper) (n : Nat) (chain : List Nat) (i : Nat) : Bool :=
  Region.noSelect ops && decide (n < ops.size) && Region.sinkB .any ops n && Region.chainB .any ops n && decide (chain.length + 1 = n) && okFT ops n (ops.size - n) (chain.length + 1) chain [i] (Array.replicate ops.size false)

theorem wp_region_free1 {id : Nat} {a : Act} {w : World} {l : List Oper} (f : FA) (n : Nat) (chain : List Nat) (hm : P.follows .mixedOrders = true) (hB : freeB1 l.toArray n chain f.i = true)
    (hA : IsAlloc P l.toArray Q f)
    (hQ : ∀ (c : List PanicEntry) (a : Act) (d : Option Tmp) (v : Value) (w : World), Q (.panic c) (a.put d v) w → Q (.panic c) a w)
    (hu : a.put f.d undef = a)
    (h : Fr1 P l.toArray Q (fun a' w' => wpList P l.toArray Q (l.drop n) a' w') f w.heap.size chain w.drew [] a) : (Code.region id l.toArray true).wp P Q a w := by
  simp only [freeB1, Bool.and_eq_true, decide_eq_true_eq] at hB
  obtain ⟨⟨⟨⟨⟨hsel, hn⟩, hs⟩, hc⟩, hol⟩, hok⟩ := hB
  have inv0 : HeadInv .any l.toArray n (Array.replicate l.toArray.size false) :=
    ⟨by simp, fun j oj _ hl => (by rw [getD_replicate_false] at hl; cases hl), fun t _ ht => getD_in (by simpa using ht) (getD_replicate_false _ _)⟩
  have H := fr1_held hsel hs hc hn hQ hA (chain.length + 1) chain none _ w.drew [] a undef w.drew hok inv0 (Nat.le_refl _) (fun p hp => by simp at hp) (Grow.refl _) trivial h
  rw [hu] at H
  refine wp_region_any hm ?_
  have hdl : (l.drop n).length = l.toArray.size - n := by simp
  have := wpAny_of_HL (P := P) (Q := Q) (g := l.toArray.size - n) (fun listed a' w' hL => by
    have := wpAny_of_seq (P := P) (md := .any) (Q' := Q) (l.drop n) n listed a' w' (fun j => by simp [List.getElem?_drop]) (by rw [hdl]; exact hL.1) hL.2
    rwa [hdl] at this) _ _ _ _ H
  rw [hol, show n + (l.toArray.size - n) = l.toArray.size by omega] at this
  exact this

variable {L : Act → World → Prop} {f : FA} {base : Nat}
theorem fr1_nil {w : World} {I : List (Nat × Nat)} {a : Act} (h : ∀ b W, Grow w W → BoxAt f base W I b → L (a.put f.d (ptrTo b)) W) : Fr1 P ops Q L f base [] w I a := h
theorem fr1_take {l : List Oper} {w : World} {I : List (Nat × Nat)} {a : Act} {c : Nat} {cs : List Nat} {o : Oper} {v : Value} (ho : nthO l c = some o) (hd1 : o.dst ≠ f.d)
    (hw : ∀ x, Region.wanted o (yielded l.toArray (a.put f.d x).tmps) = true) (hy : ∀ x W, Grow w W → (execOp (a.put f.d x).eval o).run P W = .ok (.value v) W)
    (h : Fr1 P l.toArray Q L f base cs w I (a.put o.dst v)) : Fr1 P l.toArray Q L f base (c :: cs) w I a :=
  ⟨o, (nthO_eq l c).trans ho, hd1, .inl ⟨v, fun x => .inl ⟨hw x, fun W hW => hy x W hW⟩, h⟩⟩
theorem fr1_turn {l : List Oper} {w : World} {I : List (Nat × Nat)} {a : Act} {c : Nat} {cs : List Nat} {o : Oper} (ho : nthO l c = some o) (ht : turns o = true) (hd1 : o.dst ≠ f.d)
    (hw : ∀ x, Region.wanted o (yielded l.toArray (a.put f.d x).tmps) = true)
    (h : ∀ x W, Grow w W → ∀ K' : Act → World → Prop, Shut (∀ v W', Grow W W' → Fr1 P l.toArray Q L f base cs W' ((W.heap.size, W'.heap.size) :: I) (a.put o.dst v) → K' ((a.put f.d x).put o.dst v) W') → Oper.wp P o (a.put f.d x) W K' Q) :
    Fr1 P l.toArray Q L f base (c :: cs) w I a :=
  ⟨o, (nthO_eq l c).trans ho, hd1, .inr ⟨ht, fun x W hW => wpOp_step ((nthO_eq l c).trans ho) fun K' hK => by
    rw [if_pos (hw x)]
    exact h x W hW K' fun v W' hg hf => hK _ _ ⟨v, rfl, hg, hf⟩⟩⟩
end
end Go.Proofs.Ytjcgkhcbdbbdkaa.B
