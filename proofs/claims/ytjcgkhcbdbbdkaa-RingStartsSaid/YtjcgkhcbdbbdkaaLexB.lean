/-
  A region that draws its order, whose operations read, compute, and call what only makes memory: ONE walk, in one order that is given, serves every order.
-/
import Derived.Test.YtjcgkhcbdbbdkaaBase
import Derived.OrdersHeld
namespace Go.Proofs.Ytjcgkhcbdbbdkaa.B
open Go.RowKit

/-- Operations that may change the world: they must come up alone. -/
def turns (o : Oper) : Bool :=
  match o.op with
  | .call c => match c.callee with | .builtin .len => false | .builtin .min => false | .builtin .max => false | .builtin .cap => false | _ => true
  | .alloc _ | .box .. | .buildSlice .. | .makeSlice .. | .store .. | .makeFunc .. | .makeMap .. | .mapUpdate .. | .lookup .. | .insert .. | .typeAssert .. | .makeInterface .. | .panic _ | .entryStore .. | .mapEntry .. => true
  | _ => false

section
variable {P : Program} {ops : Array Oper} {Q : Exit → Act → World → Prop}

/-- The walk in the order 'ord'; G: what every world that may come up meets. -/
def LexG (P : Program) (ops : Array Oper) (Q : Exit → Act → World → Prop) : List Nat → (World → Prop) → Act → World → Prop
  | [], _, a, w => Q .normal a w
  | i :: rest, G, a, w => ∃ o, ops[i]? = some o ∧
      ((∃ v, YieldsIf P ops G o v a ∧ LexG P ops Q rest G (a.put o.dst v) w) ∨
       (turns o = true ∧ wpOp P ops Q i (fun a' w' => ∃ G' : World → Prop, (∀ W, G' W → G W) ∧ G' w' ∧ LexG P ops Q rest G' a' w') a w))

/-- The order may be taken: what may turn the world comes up alone, all else may be taken first. -/
def lexOk (ops : Array Oper) : List Nat → Array Bool → Bool
  | [], listed => (Region.ready .any ops listed).isEmpty
  | i :: rest, listed =>
    (match ops[i]? with
     | none => false
     | some o => if turns o then Region.ready .any ops listed == [i] else Region.free .any ops listed i && (Region.ready .any ops listed).contains i) &&
    lexOk ops rest (listed.setIfInBounds i true)

theorem heldMono {S S' : World → Prop} (h : ∀ w, S' w → S w) : ∀ (fuel : Nat) (listed : Array Bool) (a : Act) (w : World), wpAnyH P .any ops Q S' fuel listed a w → wpAnyH P .any ops Q S fuel listed a w
  | 0, _, _, _, hh => hh
  | fuel + 1, _, _, _, hh => ⟨hh.1, fun i hi => wpOp_mono (fun a' w' h' => ⟨h _ h'.1, heldMono h fuel _ a' w' h'.2⟩) (hh.2 i hi)⟩

theorem lexG_held (hs : Region.noSelect ops = true) (hQ : ∀ (c : List PanicEntry) (a : Act) (d : Option Tmp) (v : Value) (w : World), Q (.panic c) (a.put d v) w → Q (.panic c) a w) :
    ∀ (ord : List Nat) (G : World → Prop) (listed : Array Bool) (a : Act) (w : World), lexOk ops ord listed = true → G w → LexG P ops Q ord G a w → wpAnyH P .any ops Q G ord.length listed a w
  | [], G, listed, a, w, hok, _, h => by
    have hr : Region.ready .any ops listed = [] := by simpa [lexOk] using hok
    exact ⟨hr, h⟩
  | i :: rest, G, listed, a, w, hok, hG, h => by
    obtain ⟨o, ho, hc⟩ := h
    simp only [lexOk, ho, Bool.and_eq_true] at hok
    obtain ⟨h1, h2⟩ := hok
    rcases hc with ⟨v, hy, hn⟩ | ⟨ht, hw⟩
    · have ih := lexG_held hs hQ rest G _ _ w h2 hG hn
      split at h1
      · have hr : Region.ready .any ops listed = [i] := by simpa using h1
        refine wpAnyH_all hr (by simp) fun j hj => ?_
        obtain rfl : j = i := by simpa using hj
        exact hy.wpOp ho hG ⟨hG, ih⟩
      · simp only [Bool.and_eq_true] at h1
        exact wpAnyH_take ho hs h1.1 h1.2 (fun c a w => hQ c a o.dst v w) hy hG ih
    · rw [if_pos ht] at h1
      have hr : Region.ready .any ops listed = [i] := by simpa using h1
      refine wpAnyH_all hr (by simp) fun j hj => ?_
      obtain rfl : j = i := by simpa using hj
      refine wpOp_mono (fun a' w' h' => ?_) hw
      obtain ⟨G', hGG, hG', hl⟩ := h'
      exact ⟨hGG _ hG', heldMono hGG _ _ _ _ (lexG_held hs hQ rest G' _ a' w' h2 hG' hl)⟩

/-- every world that has only grown from w0, and from w -/
def G2 (w0 w : World) : World → Prop := fun W => Grow w0 W ∧ Grow w W

theorem wp_region_lex {id : Nat} {a : Act} {w : World} {l : List Oper} (w0 : World) (h0 : Grow w0 w) (ord : List Nat) (hm : P.follows .mixedOrders = true) (hs : Region.noSelect l.toArray = true) (hl : ord.length = l.toArray.size)
    (hok : lexOk l.toArray ord (Array.replicate l.toArray.size false) = true)
    (hQ : ∀ (c : List PanicEntry) (a : Act) (d : Option Tmp) (v : Value) (w : World), Q (.panic c) (a.put d v) w → Q (.panic c) a w)
    (h : LexG P l.toArray Q ord (G2 w0 w.drew) a w.drew) : (Code.region id l.toArray true).wp P Q a w := by
  have hh := lexG_held hs hQ ord _ _ a w.drew hok ⟨h0.dr, Grow.refl _⟩ h
  rw [hl] at hh
  exact wp_region_held hm hh

/-- the operation at a place, read off the list as it is written -/
def nthO : List Oper → Nat → Option Oper
  | [], _ => none
  | o :: _, 0 => some o
  | _ :: l, n + 1 => nthO l n
theorem nthO_eq : ∀ (l : List Oper) (i : Nat), l.toArray[i]? = nthO l i
  | [], i => by simp [nthO]
  | o :: l, 0 => by simp [nthO]
  | o :: l, i + 1 => by
    have := nthO_eq l i
    simpa [nthO] using this

theorem lex_nil {G : World → Prop} {a : Act} {w : World} (h : Q .normal a w) : LexG P ops Q [] G a w := h
theorem lex_skip {G : World → Prop} {a : Act} {w : World} {l : List Oper} {i : Nat} {rest : List Nat} {o : Oper} (ho : nthO l i = some o) (hw : Region.wanted o (yielded l.toArray a.tmps) = false) (h : LexG P l.toArray Q rest G (a.put o.dst undef) w) :
    LexG P l.toArray Q (i :: rest) G a w := ⟨o, (nthO_eq l i).trans ho, .inl ⟨undef, .inr ⟨hw, rfl⟩, h⟩⟩
theorem lex_take {w0 : World} {a : Act} {w : World} {l : List Oper} {i : Nat} {rest : List Nat} {o : Oper} {v : Value} (ho : nthO l i = some o) (hw : Region.wanted o (yielded l.toArray a.tmps) = true)
    (hy : ∀ W, Grow w0 W → Grow w W → (execOp a.eval o).run P W = .ok (.value v) W) (h : LexG P l.toArray Q rest (G2 w0 w) (a.put o.dst v) w) :
    LexG P l.toArray Q (i :: rest) (G2 w0 w) a w := ⟨o, (nthO_eq l i).trans ho, .inl ⟨v, .inl ⟨hw, fun W hW => hy W hW.1 hW.2⟩, h⟩⟩
theorem lex_turn {w0 : World} {a : Act} {w : World} {l : List Oper} {i : Nat} {rest : List Nat} {o : Oper} (ho : nthO l i = some o) (ht : turns o = true) (hw : Region.wanted o (yielded l.toArray a.tmps) = true)
    (h : ∀ K' : Act → World → Prop, Shut (∀ a' w', Grow w0 w' → Grow w w' → LexG P l.toArray Q rest (G2 w0 w') a' w' → K' a' w') → Oper.wp P o a w K' Q) :
    LexG P l.toArray Q (i :: rest) (G2 w0 w) a w :=
  ⟨o, (nthO_eq l i).trans ho, .inr ⟨ht, wpOp_step ((nthO_eq l i).trans ho) fun K' hK => by
    rw [if_pos hw]
    exact h K' fun a' w' h0 h1 hl => hK a' w' ⟨G2 w0 w', fun W hW => ⟨hW.1, h1.tr hW.2⟩, ⟨h0, Grow.refl _⟩, hl⟩⟩⟩
end
end Go.Proofs.Ytjcgkhcbdbbdkaa.B
