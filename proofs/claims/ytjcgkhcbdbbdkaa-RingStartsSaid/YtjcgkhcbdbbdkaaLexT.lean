/-
  A region that draws its order: a head, walked in one order that serves every order, and a tail that is a chain, walked as a list. No program is named here.
-/
import Derived.Test.YtjcgkhcbdbbdkaaLexG
import Derived.StillTail
namespace Go.Proofs.Ytjcgkhcbdbbdkaa.B
open Go.RowKit

section
variable {P : Program} {ops : Array Oper} {Q : Exit → Act → World → Prop}

def wpHL (P : Program) (ops : Array Oper) (Q : Exit → Act → World → Prop) (n : Nat) (L : Array Bool → Act → World → Prop) (S : World → Prop) : Nat → Array Bool → Act → World → Prop
  | 0, listed, a, w => L listed a w
  | f + 1, listed, a, w =>
    Region.ready .any ops listed ≠ [] ∧ ∀ i ∈ Region.ready .any ops listed, i < n ∧ wpOp P ops Q i (fun a' w' => S w' ∧ wpHL P ops Q n L S f (listed.setIfInBounds i true) a' w') a w

theorem wpHL_mono {n : Nat} {L : Array Bool → Act → World → Prop} {S S' : World → Prop} (h : ∀ w, S' w → S w) : ∀ (f : Nat) (listed : Array Bool) (a : Act) (w : World), wpHL P ops Q n L S' f listed a w → wpHL P ops Q n L S f listed a w
  | 0, _, _, _, hh => hh
  | f + 1, _, _, _, hh => ⟨hh.1, fun i hi => ⟨(hh.2 i hi).1, wpOp_mono (fun a' w' h' => ⟨h _ h'.1, wpHL_mono h f _ a' w' h'.2⟩) (hh.2 i hi).2⟩⟩

theorem wpAny_of_HL {n g : Nat} {L : Array Bool → Act → World → Prop} {S : World → Prop} (hL : ∀ listed a w, L listed a w → wpAny P .any ops Q g listed a w) :
    ∀ (f : Nat) (listed : Array Bool) (a : Act) (w : World), wpHL P ops Q n L S f listed a w → wpAny P .any ops Q (f + g) listed a w
  | 0, listed, a, w, h => by rw [Nat.zero_add]; exact hL _ _ _ h
  | f + 1, listed, a, w, h => by
    rw [show f + 1 + g = (f + g) + 1 by omega]
    exact ⟨fun h0 => absurd h0 h.1, fun i hi => wpOp_mono (fun a' w' h' => wpAny_of_HL hL f _ a' w' h'.2) (h.2 i hi).2⟩

theorem wpHL_first {n i : Nat} {oi : Oper} {v : Value} {L : Array Bool → Act → World → Prop} {S : World → Prop} (hi : ops[i]? = some oi) (hsel : ∀ (j : Nat) (o : Oper) cs b, ops[j]? = some o → o.op ≠ .select cs b)
    (hs : Region.sinkB .any ops n = true) (hc : Region.chainB .any ops n = true) (hn : n < ops.size) (hin : i < n)
    (hdone : ∀ listed a w, L listed a w → ∀ j ∈ Region.ready .any ops listed, n ≤ j)
    (hQ : ∀ c a w, Q (.panic c) (a.put oi.dst v) w → Q (.panic c) a w) :
    ∀ (f : Nat) (listed : Array Bool) (a : Act) (w : World), HeadInv .any ops n listed →
      (∀ j oj, ops[j]? = some oj → j ≠ i → listed.getD j true = false → (∀ e ∈ oj.after, Region.binds .any e = true → e.on ≠ i) → oi.apart ops oj = true) →
      i ∈ Region.ready .any ops listed → YieldsIf P ops S oi v a → S w →
      wpHL P ops Q n L S f (listed.setIfInBounds i true) (a.put oi.dst v) w → wpHL P ops Q n L S (f + 1) listed a w := by
  intro f
  induction f with
  | zero =>
    intro listed a w inv _ hr hy hS H
    have hun := (mem_ready.1 hr).1
    refine ⟨fun h => (by rw [h] at hr; cases hr), fun j hj => ?_⟩
    have hjn : j < n := by
      rcases Nat.lt_or_ge j n with h | h
      · exact h
      · exact absurd hj (tail_waits hs hc hn inv _ i rfl hin hun j h)
    refine ⟨hjn, ?_⟩
    by_cases hji : j = i
    · subst hji; exact hy.wpOp hi hS ⟨hS, H⟩
    · have := hdone _ _ _ H j (ready_mono hj hji)
      omega
  | succ f ih =>
    intro listed a w inv hfree hr hy hS H
    have hun := (mem_ready.1 hr).1
    refine ⟨fun h => (by rw [h] at hr; cases hr), fun j hj => ?_⟩
    have hjn : j < n := by
      rcases Nat.lt_or_ge j n with h | h
      · exact h
      · exact absurd hj (tail_waits hs hc hn inv _ i rfl hin hun j h)
    refine ⟨hjn, ?_⟩
    by_cases hji : j = i
    · subst hji; exact hy.wpOp hi hS ⟨hS, H⟩
    · have h1 := (H.2 j (ready_mono hj hji)).2
      obtain ⟨hjun, oj, hoj, hall⟩ := mem_ready.1 hj
      have hnot : ∀ e ∈ oj.after, Region.binds .any e = true → e.on ≠ i := fun e he hb heq => by
        have h1 := hall e he hb
        rw [heq, getD_both hun] at h1
        cases h1
      have h2 := wpOp_putIf hoj (hfree j oj hoj hji hjun hnot) (fun cs b => hsel i oi cs b hi) (fun cs b => hsel j oj cs b hoj) hQ hy h1
      have hfree' : ∀ k ok, ops[k]? = some ok → k ≠ i → (listed.setIfInBounds j true).getD k true = false →
          (∀ e ∈ ok.after, Region.binds .any e = true → e.on ≠ i) → oi.apart ops ok = true := fun k ok hk hki hun hno => by
        refine hfree k ok hk hki ?_ hno
        by_cases hjk : j = k
        · subst hjk; exact hjun
        · rw [getD_set_ne true hjk] at hun; exact hun
      refine wpOp_mono (fun a' w' h3 => ⟨h3.2.1, ih (listed.setIfInBounds j true) a' w' (inv.set hj hjn) hfree' (ready_mono hr (Ne.symm hji)) h3.1 h3.2.1 ?_⟩) h2
      rw [Array.setIfInBounds_comm _ _ hji]
      exact h3.2.2

/-- the head in the order 'ord', then L -/
def LexT (P : Program) (ops : Array Oper) (Q : Exit → Act → World → Prop) (L : Act → World → Prop) : List Nat → (World → Prop) → Act → World → Prop
  | [], _, a, w => L a w
  | i :: rest, G, a, w => ∃ o, ops[i]? = some o ∧
      ((∃ v, YieldsIf P ops G o v a ∧ LexT P ops Q L rest G (a.put o.dst v) w) ∨
       (turns o = true ∧ wpOp P ops Q i (fun a' w' => ∃ G' : World → Prop, (∀ W, G' W → G W) ∧ G' w' ∧ LexT P ops Q L rest G' a' w') a w))

def lexOkT (ops : Array Oper) (n g : Nat) : List Nat → Array Bool → Bool
  | [], listed => Region.seqB .any ops g n listed
  | i :: rest, listed =>
    decide (i < n) &&
    (match ops[i]? with
     | none => false
     | some o => if turns o then Region.ready .any ops listed == [i] else Region.free .any ops listed i && (Region.ready .any ops listed).contains i) &&
    lexOkT ops n g rest (listed.setIfInBounds i true)

theorem lexT_held {n g : Nat} {Lq : Act → World → Prop} (hsel : Region.noSelect ops = true) (hs : Region.sinkB .any ops n = true) (hc : Region.chainB .any ops n = true) (hn : n < ops.size)
    (hQ : ∀ (c : List PanicEntry) (a : Act) (d : Option Tmp) (v : Value) (w : World), Q (.panic c) (a.put d v) w → Q (.panic c) a w) :
    ∀ (ord : List Nat) (G : World → Prop) (listed : Array Bool) (a : Act) (w : World), lexOkT ops n g ord listed = true → HeadInv .any ops n listed → G w → LexT P ops Q Lq ord G a w →
      wpHL P ops Q n (fun listed' a' w' => Region.seqB .any ops g n listed' = true ∧ Lq a' w') G ord.length listed a w
  | [], G, listed, a, w, hok, _, _, h => ⟨hok, h⟩
  | i :: rest, G, listed, a, w, hok, inv, hG, h => by
    obtain ⟨o, ho, hcs⟩ := h
    simp only [lexOkT, ho, Bool.and_eq_true, decide_eq_true_eq] at hok
    obtain ⟨⟨hin, h1⟩, h2⟩ := hok
    rcases hcs with ⟨v, hy, hk⟩ | ⟨ht, hw⟩
    · split at h1
      · have hr : Region.ready .any ops listed = [i] := by simpa using h1
        have hir : i ∈ Region.ready .any ops listed := by rw [hr]; simp
        have ih := lexT_held (Lq := Lq) hsel hs hc hn hQ rest G _ _ w h2 (inv.set hir hin) hG hk
        refine ⟨by rw [hr]; simp, fun j hj => ?_⟩
        rw [hr] at hj
        obtain rfl : j = i := by simpa using hj
        exact ⟨hin, hy.wpOp ho hG ⟨hG, ih⟩⟩
      · simp only [Bool.and_eq_true] at h1
        have hir : i ∈ Region.ready .any ops listed := by simpa using h1.2
        have ih := lexT_held (Lq := Lq) hsel hs hc hn hQ rest G _ _ w h2 (inv.set hir hin) hG hk
        exact wpHL_first ho (Region.noSelect_spec hsel) hs hc hn hin (fun listed' a' w' hL => seqB_ready hL.1) (fun c a w => hQ c a o.dst v w) _ _ a w inv (Region.free_spec ho h1.1) hir hy hG ih
    · rw [if_pos ht] at h1
      have hr : Region.ready .any ops listed = [i] := by simpa using h1
      have hir : i ∈ Region.ready .any ops listed := by rw [hr]; simp
      refine ⟨by rw [hr]; simp, fun j hj => ?_⟩
      rw [hr] at hj
      obtain rfl : j = i := by simpa using hj
      refine ⟨hin, wpOp_mono (fun a' w' h' => ?_) hw⟩
      obtain ⟨G', hGG, hG', hl⟩ := h'
      exact ⟨hGG _ hG', wpHL_mono hGG _ _ _ _ (lexT_held hsel hs hc hn hQ rest G' _ a' w' h2 (inv.set hir hin) hG' hl)⟩

def lexTB (ops : Array Oper) (n : Nat) (ord : List Nat) : Bool :=
  Region.noSelect ops && decide (n < ops.size) && Region.sinkB .any ops n && Region.chainB .any ops n && decide (ord.length = n) && lexOkT ops n (ops.size - n) ord (Array.replicate ops.size false)

theorem wp_region_lexT {id : Nat} {a : Act} {w : World} {l : List Oper} (G : World → Prop) (h0 : G w.drew) (n : Nat) (ord : List Nat) (hm : P.follows .mixedOrders = true) (hB : lexTB l.toArray n ord = true)
    (hQ : ∀ (c : List PanicEntry) (a : Act) (d : Option Tmp) (v : Value) (w : World), Q (.panic c) (a.put d v) w → Q (.panic c) a w)
    (h : LexT P l.toArray Q (fun a' w' => wpList P l.toArray Q (l.drop n) a' w') ord G a w.drew) : (Code.region id l.toArray true).wp P Q a w := by
  simp only [lexTB, Bool.and_eq_true, decide_eq_true_eq] at hB
  obtain ⟨⟨⟨⟨⟨hsel, hn⟩, hs⟩, hc⟩, hol⟩, hlex⟩ := hB
  have inv0 : HeadInv .any l.toArray n (Array.replicate l.toArray.size false) :=
    ⟨by simp, fun j oj _ hl => (by rw [getD_replicate_false] at hl; cases hl), fun t _ ht => getD_in (by simpa using ht) (getD_replicate_false _ _)⟩
  have H := lexT_held hsel hs hc hn hQ ord G _ a w.drew hlex inv0 h0 h
  refine wp_region_any hm ?_
  have hdl : (l.drop n).length = l.toArray.size - n := by simp
  have := wpAny_of_HL (P := P) (Q := Q) (g := l.toArray.size - n) (fun listed a' w' hL => by
    have := wpAny_of_seq (P := P) (md := .any) (Q' := Q) (l.drop n) n listed a' w' (fun j => by simp [List.getElem?_drop]) (by rw [hdl]; exact hL.1) hL.2
    rwa [hdl] at this) _ _ _ _ H
  rw [hol, show n + (l.toArray.size - n) = l.toArray.size by omega] at this
  exact this

variable {L : Act → World → Prop}
theorem lext_nil {G : World → Prop} {a : Act} {w : World} (h : L a w) : LexT P ops Q L [] G a w := h
theorem lext_skip {G : World → Prop} {a : Act} {w : World} {l : List Oper} {i : Nat} {rest : List Nat} {o : Oper} (ho : nthO l i = some o) (hw : Region.wanted o (yielded l.toArray a.tmps) = false) (h : LexT P l.toArray Q L rest G (a.put o.dst undef) w) :
    LexT P l.toArray Q L (i :: rest) G a w := ⟨o, (nthO_eq l i).trans ho, .inl ⟨undef, .inr ⟨hw, rfl⟩, h⟩⟩
theorem lext_take {G : World → Prop} {a : Act} {w : World} {l : List Oper} {i : Nat} {rest : List Nat} {o : Oper} {v : Value} (ho : nthO l i = some o) (hw : Region.wanted o (yielded l.toArray a.tmps) = true)
    (hy : ∀ W, G W → (execOp a.eval o).run P W = .ok (.value v) W) (h : LexT P l.toArray Q L rest G (a.put o.dst v) w) :
    LexT P l.toArray Q L (i :: rest) G a w := ⟨o, (nthO_eq l i).trans ho, .inl ⟨v, .inl ⟨hw, hy⟩, h⟩⟩
theorem lext_turn {G : World → Prop} {a : Act} {w : World} {l : List Oper} {i : Nat} {rest : List Nat} {o : Oper} (ho : nthO l i = some o) (ht : turns o = true) (hw : Region.wanted o (yielded l.toArray a.tmps) = true)
    (h : ∀ K' : Act → World → Prop, Shut (∀ a' w', G w' → LexT P l.toArray Q L rest G a' w' → K' a' w') → Oper.wp P o a w K' Q) :
    LexT P l.toArray Q L (i :: rest) G a w :=
  ⟨o, (nthO_eq l i).trans ho, .inr ⟨ht, wpOp_step ((nthO_eq l i).trans ho) fun K' hK => by
    rw [if_pos hw]
    exact h K' fun a' w' h0 hl => hK a' w' ⟨G, fun _ hW => hW, h0, hl⟩⟩⟩
end

section
variable {P : Program} {w : World} {t e : TypeId} {z : Value} {size bytes : Nat}
/-- append of elements just laid, with what becomes of the row's block -/
theorem oper_new3 {o : Oper} {a : Act} {Q : Exit → Act → World → Prop} {K : Act → World → Prop} (s x : Operand)
    (ho : o.op = .call { callee := .builtin .append, args := #[s, x], argTypes := #[t, t] })
    (E : Elem P t e z size bytes) {base : Nat} {v : Value} {n : Nat} {xs : List Value} (hown : w.ownsRow base e size v n xs) (hs : a.eval s = v)
    (m g : Nat) (hgz : w.heap.size = g) (cs : Array Value) (hx : a.eval x = .slice (some ⟨g, 0, none⟩) m m) (hm : m ≤ 16) (hcs : cs.size = m * size) (h1 : ∀ u ∈ cs.toList, u.oneCell' = true)
    (hn : (n + m) * bytes ≤ 140737488355328) (hbase : base ≤ w.heap.size)
    (h : ∀ v' w', w'.ownsRow base e size v' (n + m) (xs ++ cs.toList) → w.grownBy w' v.ownBlock → (v'.ownBlock = v.ownBlock ∨ v'.ownBlock = some (w.heap.size + 1)) → K (a.put o.dst v') w') :
    Oper.wp P o a (w.alloc (.cells cs e)) K Q := by
  subst hgz
  exact oper_app s x ho E (hown.alloc _) hs (Rd.lit w cs e m (by simp only [maxLen]; omega) hcs) hx h1 hn (by rw [World.size_alloc]; omega) fun v' w' k1 k2 k3 => h v' w' k1 (grow_of_alloc k2) (by rw [World.size_alloc] at k3; exact k3)
end
end Go.Proofs.Ytjcgkhcbdbbdkaa.B
