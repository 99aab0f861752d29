/-
  A region that draws its order, in which two variables are laid (or one) that nothing but the tail waits for: one walk of the rest serves every order. No program is named here.
-/
import Derived.Test.YtjcgkhcbdbbdkaaLexT
namespace Go.Proofs.Ytjcgkhcbdbbdkaa.B
open Go.RowKit

/-- a variable that is laid: the operation's place, its slot, its type, its cells -/
structure FA where
  i : Nat
  d : Option Tmp
  t : TypeId
  cs : Array Value
def ptrTo (b : Nat) : Value := .pointer (some ⟨b, 0, none⟩)

theorem put_comm (a : Act) {d e : Option Tmp} (h : d ≠ e) (u v : Value) : (a.put d u).put e v = (a.put e v).put d u := by
  cases d with
  | none => rfl
  | some d =>
    cases e with
    | none => rfl
    | some e =>
      have hde : d ≠ e := fun he => h (by rw [he])
      simp only [Act.put]
      rw [Array.setIfInBounds_comm _ _ hde]
theorem put_put (a : Act) (d : Option Tmp) (u v : Value) : (a.put d u).put d v = a.put d v := by
  cases d with
  | none => rfl
  | some d => simp [Act.put]

section
variable {P : Program} {ops : Array Oper} {Q : Exit → Act → World → Prop}

def FA.put2 (f1 f2 : FA) (x1 x2 : Value) (a : Act) : Act := (a.put f1.d x1).put f2.d x2
/-- at the end: both are laid, and lie in none of the calls' stretches -/
def BoxAt (f : FA) (base : Nat) (W : World) (I : List (Nat × Nat)) (b : Nat) : Prop := W.heap[b]? = some (.cells f.cs f.t (0, 0)) ∧ base ≤ b ∧ ∀ p ∈ I, b < p.1 ∨ p.2 ≤ b

def FrT (P : Program) (ops : Array Oper) (Q : Exit → Act → World → Prop) (L : Act → World → Prop) (f1 f2 : FA) (base : Nat) : List Nat → World → List (Nat × Nat) → Act → Prop
  | [], w, I, a => ∀ b1 b2 W, Grow w W → b1 ≠ b2 → BoxAt f1 base W I b1 → BoxAt f2 base W I b2 → L (f1.put2 f2 (ptrTo b1) (ptrTo b2) a) W
  | c :: cs, w, I, a => ∃ o, ops[c]? = some o ∧ o.dst ≠ f1.d ∧ o.dst ≠ f2.d ∧
      ((∃ v, (∀ x1 x2, YieldsIf P ops (Grow w) o v (f1.put2 f2 x1 x2 a)) ∧ FrT P ops Q L f1 f2 base cs w I (a.put o.dst v)) ∨
       (turns o = true ∧ ∀ x1 x2 W, Grow w W → wpOp P ops Q c (fun a' W' => ∃ v, a' = (f1.put2 f2 x1 x2 a).put o.dst v ∧ Grow W W' ∧ FrT P ops Q L f1 f2 base cs W' ((W.heap.size, W'.heap.size) :: I) (a.put o.dst v)) (f1.put2 f2 x1 x2 a) W))

def pendOf (f1 f2 : FA) : Option Nat → Option Nat → List Nat
  | none, none => [f1.i, f2.i]
  | none, some _ => [f1.i]
  | some _, none => [f2.i]
  | some _, some _ => []

def okFT (ops : Array Oper) (n g : Nat) : Nat → List Nat → List Nat → Array Bool → Bool
  | 0, chain, p, listed => chain.isEmpty && p.isEmpty && Region.seqB .any ops g n listed
  | k + 1, [], p, listed => !(Region.ready .any ops listed).isEmpty && (Region.ready .any ops listed).all (fun i => p.contains i) && p.all (fun i => decide (i < n) && okFT ops n g k [] (p.erase i) (listed.setIfInBounds i true))
  | k + 1, c :: cs, p, listed => decide (c < n) &&
    (match ops[c]? with
     | none => false
     | some o => if turns o then !(Region.ready .any ops listed).isEmpty && (Region.ready .any ops listed).all (fun i => i == c || p.contains i) && okFT ops n g k cs p (listed.setIfInBounds c true) && p.all (fun i => decide (i < n) && okFT ops n g k (c :: cs) (p.erase i) (listed.setIfInBounds i true))
       else Region.free .any ops listed c && (Region.ready .any ops listed).contains c && okFT ops n g k cs p (listed.setIfInBounds c true))

/-- what is known of a variable that may have been laid -/
def Laid (f : FA) (base : Nat) (W : World) (I : List (Nat × Nat)) (x : Value) : Option Nat → Prop
  | none => True
  | some b => x = ptrTo b ∧ BoxAt f base W I b
theorem Laid.grow {f : FA} {base : Nat} {W W' : World} {I : List (Nat × Nat)} {x : Value} {s : Option Nat} (h : Laid f base W I x s) (hg : Grow W W') : Laid f base W' I x s := by
  cases s with
  | none => trivial
  | some b => exact ⟨h.1, (hg.block b (lt_of_block h.2.1)).trans h.2.1, h.2.2.1, h.2.2.2⟩
theorem Laid.call {f : FA} {base : Nat} {W W' : World} {I : List (Nat × Nat)} {x : Value} {s : Option Nat} (h : Laid f base W I x s) (hg : Grow W W') : Laid f base W' ((W.heap.size, W'.heap.size) :: I) x s := by
  cases s with
  | none => trivial
  | some b =>
    refine ⟨h.1, (hg.block b (lt_of_block h.2.1)).trans h.2.1, h.2.2.1, fun p hp => ?_⟩
    rcases List.mem_cons.1 hp with rfl | hp
    · exact .inl (lt_of_block h.2.1)
    · exact h.2.2.2 p hp

/-- the operation that lays f -/
structure IsAlloc (P : Program) (ops : Array Oper) (Q : Exit → Act → World → Prop) (f : FA) : Prop where
  op : ∃ o, ops[f.i]? = some o ∧ o.dst = f.d ∧ o.guard = none ∧ ∀ (a : Act) (W : World) (K : Act → World → Prop), K (a.put o.dst (ptrTo W.heap.size)) (W.alloc (.cells f.cs f.t)) → Oper.wp P o a W K Q

theorem IsAlloc.step {f : FA} (h : IsAlloc P ops Q f) (a : Act) (W : World) {K : Act → World → Prop} (hK : K (a.put f.d (ptrTo W.heap.size)) (W.alloc (.cells f.cs f.t))) : wpOp P ops Q f.i K a W := by
  obtain ⟨o, h1, h2, h3, h4⟩ := h.op
  refine wpOp_step h1 fun K' hK' => ?_
  rw [if_pos (by simp [Region.wanted, h3])]
  exact h4 a W K' (hK' _ _ (by rw [h2]; exact hK))

theorem frT_held {n g : Nat} {L : Act → World → Prop} {f1 f2 : FA} {base : Nat} (hsel : Region.noSelect ops = true) (hs : Region.sinkB .any ops n = true) (hc : Region.chainB .any ops n = true) (hn : n < ops.size)
    (hQ : ∀ (c : List PanicEntry) (a : Act) (d : Option Tmp) (v : Value) (w : World), Q (.panic c) (a.put d v) w → Q (.panic c) a w)
    (hd : f1.d ≠ f2.d) (hi : f1.i ≠ f2.i) (hA1 : IsAlloc P ops Q f1) (hA2 : IsAlloc P ops Q f2) :
    ∀ (k : Nat) (chain : List Nat) (s1 s2 : Option Nat) (listed : Array Bool) (w : World) (I : List (Nat × Nat)) (a : Act) (x1 x2 : Value) (W : World),
      okFT ops n g k chain (pendOf f1 f2 s1 s2) listed = true → HeadInv .any ops n listed → base ≤ w.heap.size → (∀ p ∈ I, p.2 ≤ w.heap.size) → Grow w W →
      Laid f1 base W I x1 s1 → Laid f2 base W I x2 s2 → (∀ b1 b2, s1 = some b1 → s2 = some b2 → b1 ≠ b2) → FrT P ops Q L f1 f2 base chain w I a →
      wpHL P ops Q n (fun listed' a' w' => Region.seqB .any ops g n listed' = true ∧ L a' w') (Grow w) k listed (f1.put2 f2 x1 x2 a) W := by
  intro k
  induction k with
  | zero =>
    intro chain s1 s2 listed w I a x1 x2 W hok inv hb hI hg h1 h2 hne h
    simp only [okFT, Bool.and_eq_true, List.isEmpty_iff] at hok
    obtain ⟨⟨hch, hp⟩, hseq⟩ := hok
    subst hch
    cases s1 with
    | none => cases s2 <;> simp [pendOf] at hp
    | some b1 =>
      cases s2 with
      | none => simp [pendOf] at hp
      | some b2 =>
        obtain ⟨rfl, h1⟩ := h1
        obtain ⟨rfl, h2⟩ := h2
        exact ⟨hseq, h b1 b2 W hg (hne _ _ rfl rfl) h1 h2⟩
  | succ k ih =>
    intro chain s1 s2 listed w I a x1 x2 W hok inv hb hI hg h1 h2 hne h
    -- one of the two is laid now
    have lay : ∀ i ∈ Region.ready .any ops listed, i < n → i ∈ pendOf f1 f2 s1 s2 → okFT ops n g k chain ((pendOf f1 f2 s1 s2).erase i) (listed.setIfInBounds i true) = true →
        wpOp P ops Q i (fun a' w' => Grow w w' ∧ wpHL P ops Q n (fun listed' a' w' => Region.seqB .any ops g n listed' = true ∧ L a' w') (Grow w) k (listed.setIfInBounds i true) a' w') (f1.put2 f2 x1 x2 a) W := by
      intro i hir hin hip hok'
      have hbW : base ≤ W.heap.size := Nat.le_trans hb hg.size
      have hIW : ∀ p ∈ I, W.heap.size < p.1 ∨ p.2 ≤ W.heap.size := fun p hp => .inr (Nat.le_trans (hI p hp) hg.size)
      have hgA : Grow W (W.alloc (.cells f1.cs f1.t)) := (Grow.refl W).al _
      have hgB : Grow W (W.alloc (.cells f2.cs f2.t)) := (Grow.refl W).al _
      have new1 : s1 = none → i = f1.i → okFT ops n g k chain (pendOf f1 f2 (some W.heap.size) s2) (listed.setIfInBounds i true) = true → wpOp P ops Q i (fun a' w' => Grow w w' ∧ wpHL P ops Q n (fun listed' a' w' => Region.seqB .any ops g n listed' = true ∧ L a' w') (Grow w) k (listed.setIfInBounds i true) a' w') (f1.put2 f2 x1 x2 a) W := by
        rintro rfl rfl hok2
        refine hA1.step _ W ⟨hg.al _, ?_⟩
        have e : (f1.put2 f2 x1 x2 a).put f1.d (ptrTo W.heap.size) = f1.put2 f2 (ptrTo W.heap.size) x2 a := by
          unfold FA.put2
          rw [put_comm _ hd.symm, put_put]
        rw [e]
        exact ih chain (some W.heap.size) s2 _ w I a _ _ _ hok2 (inv.set hir hin) hb hI (hg.al _) ⟨rfl, heap_alloc_new W _, hbW, hIW⟩ (h2.grow hgA)
          (fun b1 b2 e1 e2 => by
            injection e1 with e1
            subst e1 e2
            have := lt_of_block h2.2.1
            omega) h
      have new2 : s2 = none → i = f2.i → okFT ops n g k chain (pendOf f1 f2 s1 (some W.heap.size)) (listed.setIfInBounds i true) = true → wpOp P ops Q i (fun a' w' => Grow w w' ∧ wpHL P ops Q n (fun listed' a' w' => Region.seqB .any ops g n listed' = true ∧ L a' w') (Grow w) k (listed.setIfInBounds i true) a' w') (f1.put2 f2 x1 x2 a) W := by
        rintro rfl rfl hok2
        refine hA2.step _ W ⟨hg.al _, ?_⟩
        have e : (f1.put2 f2 x1 x2 a).put f2.d (ptrTo W.heap.size) = f1.put2 f2 x1 (ptrTo W.heap.size) a := by
          unfold FA.put2
          rw [put_put]
        rw [e]
        exact ih chain s1 (some W.heap.size) _ w I a _ _ _ hok2 (inv.set hir hin) hb hI (hg.al _) (h1.grow hgB) ⟨rfl, heap_alloc_new W _, hbW, hIW⟩
          (fun b1 b2 e1 e2 => by
            injection e2 with e2
            subst e1 e2
            have := lt_of_block h1.2.1
            omega) h
      cases s1 with
      | none =>
        cases s2 with
        | none =>
          simp only [pendOf, List.mem_cons, List.not_mem_nil, or_false] at hip
          rcases hip with rfl | rfl
          · exact new1 rfl rfl (by simpa [pendOf] using hok')
          · exact new2 rfl rfl (by simpa [pendOf, List.erase_cons, hi] using hok')
        | some b2 =>
          simp only [pendOf, List.mem_cons, List.not_mem_nil, or_false] at hip
          subst hip
          exact new1 rfl rfl (by simpa [pendOf] using hok')
      | some b1 =>
        cases s2 with
        | none =>
          simp only [pendOf, List.mem_cons, List.not_mem_nil, or_false] at hip
          subst hip
          exact new2 rfl rfl (by simpa [pendOf] using hok')
        | some b2 => simp [pendOf] at hip
    cases chain with
    | nil =>
      simp only [okFT, Bool.and_eq_true, List.all_eq_true, decide_eq_true_eq] at hok
      obtain ⟨⟨hr, hall⟩, hp⟩ := hok
      refine ⟨fun e => by rw [e] at hr; simp at hr, fun i hir => ?_⟩
      have hip : i ∈ pendOf f1 f2 s1 s2 := by simpa using hall i hir
      exact ⟨(hp i hip).1, lay i hir (hp i hip).1 hip (hp i hip).2⟩
    | cons c cs =>
      obtain ⟨o, ho, hd1, hd2, hcs⟩ := h
      simp only [okFT, ho, Bool.and_eq_true, decide_eq_true_eq] at hok
      obtain ⟨hcn, hok⟩ := hok
      have puto : ∀ v, (f1.put2 f2 x1 x2 a).put o.dst v = f1.put2 f2 x1 x2 (a.put o.dst v) := fun v => by
        unfold FA.put2
        rw [put_comm _ hd2.symm, put_comm _ hd1.symm]
      rcases hcs with ⟨v, hy, hk⟩ | ⟨ht, hw⟩
      · by_cases ht : turns o = true
        · rw [if_pos ht] at hok
          simp only [Bool.and_eq_true, List.all_eq_true, decide_eq_true_eq] at hok
          obtain ⟨⟨⟨hr, hall⟩, hok1⟩, hp⟩ := hok
          refine ⟨fun e => by rw [e] at hr; simp at hr, fun i hir => ?_⟩
          have hi2 := hall i hir
          simp only [Bool.or_eq_true, beq_iff_eq] at hi2
          rcases hi2 with rfl | hip
          · refine ⟨hcn, (hy x1 x2).wpOp ho hg ⟨hg, ?_⟩⟩
            rw [puto]
            exact ih cs s1 s2 _ w I _ _ _ _ hok1 (inv.set hir hcn) hb hI hg h1 h2 hne hk
          · have hip : i ∈ pendOf f1 f2 s1 s2 := by simpa using hip
            exact ⟨(hp i hip).1, lay i hir (hp i hip).1 hip (hp i hip).2⟩
        · rw [if_neg ht] at hok
          simp only [Bool.and_eq_true] at hok
          obtain ⟨⟨hfr, hct⟩, hok1⟩ := hok
          have hir : c ∈ Region.ready .any ops listed := by simpa using hct
          have hk2 := ih cs s1 s2 _ w I _ x1 x2 W hok1 (inv.set hir hcn) hb hI hg h1 h2 hne hk
          rw [← puto] at hk2
          exact wpHL_first ho (Region.noSelect_spec hsel) hs hc hn hcn (fun listed' a' w' hL => seqB_ready hL.1) (fun c a w => hQ c a o.dst v w) _ _ _ W inv (Region.free_spec ho hfr) hir (hy x1 x2) hg hk2
      · rw [if_pos ht] at hok
        simp only [Bool.and_eq_true, List.all_eq_true, decide_eq_true_eq] at hok
        obtain ⟨⟨⟨hr, hall⟩, hok1⟩, hp⟩ := hok
        refine ⟨fun e => by rw [e] at hr; simp at hr, fun i hir => ?_⟩
        have hi2 := hall i hir
        simp only [Bool.or_eq_true, beq_iff_eq] at hi2
        rcases hi2 with rfl | hip
        · refine ⟨hcn, wpOp_mono (fun a' W' h' => ?_) (hw x1 x2 W hg)⟩
          obtain ⟨v, rfl, hgW, hk⟩ := h'
          refine ⟨hg.tr hgW, ?_⟩
          rw [puto]
          refine wpHL_mono (fun X hX => (hg.tr hgW).tr hX) _ _ _ _ (ih cs s1 s2 _ W' _ _ x1 x2 W' hok1 (inv.set hir hcn) (Nat.le_trans hb (hg.tr hgW).size) (fun p hp => ?_) (Grow.refl _) (h1.call hgW) (h2.call hgW) hne hk)
          rcases List.mem_cons.1 hp with rfl | hp
          · exact Nat.le_refl _
          · exact Nat.le_trans (hI p hp) (hg.tr hgW).size
        · have hip : i ∈ pendOf f1 f2 s1 s2 := by simpa using hip
          exact ⟨(hp i hip).1, lay i hir (hp i hip).1 hip (hp i hip).2⟩

def freeB (ops : Array Oper) (n : Nat) (chain : List Nat) (i1 i2 : Nat) : Bool :=
  Region.noSelect ops && decide (n < ops.size) && Region.sinkB .any ops n && Region.chainB .any ops n && decide (chain.length + 2 = n) && okFT ops n (ops.size - n) (chain.length + 2) chain [i1, i2] (Array.replicate ops.size false) && decide (i1 ≠ i2)

theorem wp_region_free2 {id : Nat} {a : Act} {w : World} {l : List Oper} (f1 f2 : FA) (n : Nat) (chain : List Nat) (hm : P.follows .mixedOrders = true) (hB : freeB l.toArray n chain f1.i f2.i = true) (hd : f1.d ≠ f2.d)
    (hA1 : IsAlloc P l.toArray Q f1) (hA2 : IsAlloc P l.toArray Q f2)
    (hQ : ∀ (c : List PanicEntry) (a : Act) (d : Option Tmp) (v : Value) (w : World), Q (.panic c) (a.put d v) w → Q (.panic c) a w)
    (hu1 : a.put f1.d undef = a) (hu2 : a.put f2.d undef = a)
    (h : FrT P l.toArray Q (fun a' w' => wpList P l.toArray Q (l.drop n) a' w') f1 f2 w.heap.size chain w.drew [] a) : (Code.region id l.toArray true).wp P Q a w := by
  simp only [freeB, Bool.and_eq_true, decide_eq_true_eq] at hB
  obtain ⟨⟨⟨⟨⟨⟨hsel, hn⟩, hs⟩, hc⟩, hol⟩, hok⟩, hi⟩ := hB
  have inv0 : HeadInv .any l.toArray n (Array.replicate l.toArray.size false) :=
    ⟨by simp, fun j oj _ hl => (by rw [getD_replicate_false] at hl; cases hl), fun t _ ht => getD_in (by simpa using ht) (getD_replicate_false _ _)⟩
  have H := frT_held hsel hs hc hn hQ hd hi hA1 hA2 (chain.length + 2) chain none none _ w.drew [] a undef undef w.drew hok inv0 (Nat.le_refl _) (fun p hp => by simp at hp) (Grow.refl _) trivial trivial (fun b1 b2 e => by cases e) h
  have e : f1.put2 f2 undef undef a = a := by unfold FA.put2; rw [hu1, hu2]
  rw [e] at H
  refine wp_region_any hm ?_
  have hdl : (l.drop n).length = l.toArray.size - n := by simp
  have := wpAny_of_HL (P := P) (Q := Q) (g := l.toArray.size - n) (fun listed a' w' hL => by
    have := wpAny_of_seq (P := P) (md := .any) (Q' := Q) (l.drop n) n listed a' w' (fun j => by simp [List.getElem?_drop]) (by rw [hdl]; exact hL.1) hL.2
    rwa [hdl] at this) _ _ _ _ H
  rw [hol, show n + (l.toArray.size - n) = l.toArray.size by omega] at this
  exact this

variable {L : Act → World → Prop} {f1 f2 : FA} {base : Nat}
theorem fr_nil {w : World} {I : List (Nat × Nat)} {a : Act} (h : ∀ b1 b2 W, Grow w W → b1 ≠ b2 → BoxAt f1 base W I b1 → BoxAt f2 base W I b2 → L (f1.put2 f2 (ptrTo b1) (ptrTo b2) a) W) : FrT P ops Q L f1 f2 base [] w I a := h
theorem fr_take {l : List Oper} {w : World} {I : List (Nat × Nat)} {a : Act} {c : Nat} {cs : List Nat} {o : Oper} {v : Value} (ho : nthO l c = some o) (hd1 : o.dst ≠ f1.d) (hd2 : o.dst ≠ f2.d)
    (hw : ∀ x1 x2, Region.wanted o (yielded l.toArray (f1.put2 f2 x1 x2 a).tmps) = true) (hy : ∀ x1 x2 W, Grow w W → (execOp (f1.put2 f2 x1 x2 a).eval o).run P W = .ok (.value v) W)
    (h : FrT P l.toArray Q L f1 f2 base cs w I (a.put o.dst v)) : FrT P l.toArray Q L f1 f2 base (c :: cs) w I a :=
  ⟨o, (nthO_eq l c).trans ho, hd1, hd2, .inl ⟨v, fun x1 x2 => .inl ⟨hw x1 x2, fun W hW => hy x1 x2 W hW⟩, h⟩⟩
theorem fr_turn {l : List Oper} {w : World} {I : List (Nat × Nat)} {a : Act} {c : Nat} {cs : List Nat} {o : Oper} (ho : nthO l c = some o) (ht : turns o = true) (hd1 : o.dst ≠ f1.d) (hd2 : o.dst ≠ f2.d)
    (hw : ∀ x1 x2, Region.wanted o (yielded l.toArray (f1.put2 f2 x1 x2 a).tmps) = true)
    (h : ∀ x1 x2 W, Grow w W → ∀ K' : Act → World → Prop, Shut (∀ v W', Grow W W' → FrT P l.toArray Q L f1 f2 base cs W' ((W.heap.size, W'.heap.size) :: I) (a.put o.dst v) → K' ((f1.put2 f2 x1 x2 a).put o.dst v) W') → Oper.wp P o (f1.put2 f2 x1 x2 a) W K' Q) :
    FrT P l.toArray Q L f1 f2 base (c :: cs) w I a :=
  ⟨o, (nthO_eq l c).trans ho, hd1, hd2, .inr ⟨ht, fun x1 x2 W hW => wpOp_step ((nthO_eq l c).trans ho) fun K' hK => by
    rw [if_pos (hw x1 x2)]
    exact h x1 x2 W hW K' fun v W' hg hf => hK _ _ ⟨v, rfl, hg, hf⟩⟩⟩
end
end Go.Proofs.Ytjcgkhcbdbbdkaa.B
