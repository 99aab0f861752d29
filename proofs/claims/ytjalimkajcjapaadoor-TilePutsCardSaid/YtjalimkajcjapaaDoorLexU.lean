/-
  A drawing region whose last turn (a store) ends what the earlier operations rest on: the walk in an order, told of the worlds up to that turn.
-/
import Derived.Test.YtjalimkajcjapaaDoorChecked
import Derived.Test.YtjalimkajcjapaaDoorCore
namespace Go.Proofs.YtjalimkajcjapaaDoor.B
open Go.RowKit

section
variable {P : Program} {ops : Array Oper} {Q : Exit → Act → World → Prop}

def wpHU (P : Program) (ops : Array Oper) (Q : Exit → Act → World → Prop) (n T : Nat) (L : Array Bool → Act → World → Prop) (S : World → Prop) : Nat → Array Bool → Act → World → Prop
  | 0, listed, a, w => L listed a w
  | f + 1, listed, a, w =>
    Region.ready .any ops listed ≠ [] ∧ ∀ i ∈ Region.ready .any ops listed, i < n ∧ wpOp P ops Q i (fun a' w' => ((listed.setIfInBounds i true).getD T true = false → S w') ∧ wpHU P ops Q n T L S f (listed.setIfInBounds i true) a' w') a w

theorem wpHU_mono {n T : Nat} {L : Array Bool → Act → World → Prop} {S S' : World → Prop} (h : ∀ w, S' w → S w) : ∀ (f : Nat) (listed : Array Bool) (a : Act) (w : World), wpHU P ops Q n T L S' f listed a w → wpHU P ops Q n T L S f listed a w
  | 0, _, _, _, hh => hh
  | f + 1, _, _, _, hh => ⟨hh.1, fun i hi => ⟨(hh.2 i hi).1, wpOp_mono (fun a' w' h' => ⟨fun hl => h _ (h'.1 hl), wpHU_mono h f _ a' w' h'.2⟩) (hh.2 i hi).2⟩⟩

theorem wpAny_of_HU {n T g : Nat} {L : Array Bool → Act → World → Prop} {S : World → Prop} (hL : ∀ listed a w, L listed a w → wpAny P .any ops Q g listed a w) :
    ∀ (f : Nat) (listed : Array Bool) (a : Act) (w : World), wpHU P ops Q n T L S f listed a w → wpAny P .any ops Q (f + g) listed a w
  | 0, listed, a, w, h => by rw [Nat.zero_add]; exact hL _ _ _ h
  | f + 1, listed, a, w, h => by
    rw [show f + 1 + g = (f + g) + 1 by omega]
    exact ⟨fun h0 => absurd h0 h.1, fun i hi => wpOp_mono (fun a' w' h' => wpAny_of_HU hL f _ a' w' h'.2) (h.2 i hi).2⟩

/-- the turn T waits for i -/
def waitsB (ops : Array Oper) (T i : Nat) : Bool := match ops[T]? with | some o => o.after.any fun e => Region.binds .any e && decide (e.on = i) | none => false
theorem waitsB_spec {T i : Nat} {listed : Array Bool} (h : waitsB ops T i = true) (hun : listed.getD i true = false) : T ∉ Region.ready .any ops listed := by
  intro hr
  obtain ⟨_, o, ho, hall⟩ := mem_ready.1 hr
  unfold waitsB at h
  rw [ho] at h
  obtain ⟨e, he, h2⟩ := Array.any_eq_true'.1 h
  simp only [Bool.and_eq_true, decide_eq_true_eq] at h2
  have h3 := hall e he h2.1
  rw [h2.2, getD_both hun] at h3
  cases h3
theorem wpHU_first {n T i : Nat} {oi : Oper} {v : Value} {L : Array Bool → Act → World → Prop} {S : World → Prop} (hi : ops[i]? = some oi) (hsel : ∀ (j : Nat) (o : Oper) cs b, ops[j]? = some o → o.op ≠ .select cs b)
    (hs : Region.sinkB .any ops n = true) (hc : Region.chainB .any ops n = true) (hn : n < ops.size) (hin : i < n)
    (hdone : ∀ listed a w, L listed a w → ∀ j ∈ Region.ready .any ops listed, n ≤ j)
    (hQ : ∀ c a w, Q (.panic c) (a.put oi.dst v) w → Q (.panic c) a w) (hiT : i ≠ T) :
    ∀ (f : Nat) (listed : Array Bool) (a : Act) (w : World), HeadInv .any ops n listed →
      (∀ j oj, ops[j]? = some oj → j ≠ i → listed.getD j true = false → (∀ e ∈ oj.after, Region.binds .any e = true → e.on ≠ i) → oi.apart ops oj = true) →
      i ∈ Region.ready .any ops listed → YieldsIf P ops (fun W => waitsB ops T i = true → S W) oi v a → (listed.getD T true = false → S w) → (waitsB ops T i = true → listed.getD T true = false) →
      wpHU P ops Q n T L S f (listed.setIfInBounds i true) (a.put oi.dst v) w → wpHU P ops Q n T L S (f + 1) listed a w := by
  intro f
  induction f with
  | zero =>
    intro listed a w inv _ hr hy hS hTl H
    have hun := (mem_ready.1 hr).1
    refine ⟨fun h => (by rw [h] at hr; cases hr), fun j hj => ?_⟩
    have hjn : j < n := by
      rcases Nat.lt_or_ge j n with h | h
      · exact h
      · exact absurd hj (tail_waits hs hc hn inv _ i rfl hin hun j h)
    refine ⟨hjn, ?_⟩
    by_cases hji : j = i
    · subst hji; exact hy.wpOp hi (fun hw => hS (hTl hw)) ⟨fun hl => hS (by rw [getD_set_ne true hiT] at hl; exact hl), H⟩
    · have := hdone _ _ _ H j (ready_mono hj hji)
      omega
  | succ f ih =>
    intro listed a w inv hfree hr hy hS hTl H
    have hun := (mem_ready.1 hr).1
    refine ⟨fun h => (by rw [h] at hr; cases hr), fun j hj => ?_⟩
    have hjn : j < n := by
      rcases Nat.lt_or_ge j n with h | h
      · exact h
      · exact absurd hj (tail_waits hs hc hn inv _ i rfl hin hun j h)
    refine ⟨hjn, ?_⟩
    by_cases hji : j = i
    · subst hji; exact hy.wpOp hi (fun hw => hS (hTl hw)) ⟨fun hl => hS (by rw [getD_set_ne true hiT] at hl; exact hl), H⟩
    · have hjT : waitsB ops T i = true → j ≠ T := fun hw e => waitsB_spec hw hun (e ▸ hj)
      have h1 := (H.2 j (ready_mono hj hji)).2
      obtain ⟨hjun, oj, hoj, hall⟩ := mem_ready.1 hj
      have hnot : ∀ e ∈ oj.after, Region.binds .any e = true → e.on ≠ i := fun e he hb heq => by
        have h1 := hall e he hb
        rw [heq, getD_both hun] at h1
        cases h1
      have h2 := wpOp_putIf hoj (hfree j oj hoj hji hjun hnot) (fun cs b => hsel i oi cs b hi) (fun cs b => hsel j oj cs b hoj) hQ hy h1
      have hfree' : ∀ k ok, ops[k]? = some ok → k ≠ i → (listed.setIfInBounds j true).getD k true = false →
          (∀ e ∈ ok.after, Region.binds .any e = true → e.on ≠ i) → oi.apart ops ok = true := fun k ok hk hki hun hno => by
        refine hfree k ok hk hki ?_ hno
        by_cases hjk : j = k
        · subst hjk; exact hjun
        · rw [getD_set_ne true hjk] at hun; exact hun
      refine wpOp_mono (fun a' w' h3 => ⟨fun hl => h3.2.1 (by rw [Array.setIfInBounds_comm _ _ (Ne.symm hji), getD_set_ne true hiT]; exact hl), ih (listed.setIfInBounds j true) a' w' (inv.set hj hjn) hfree' (ready_mono hr (Ne.symm hji)) h3.1 (fun hl => h3.2.1 (by rw [Array.setIfInBounds_comm _ _ (Ne.symm hji), getD_set_ne true hiT]; exact hl)) (fun hw => by rw [getD_set_ne true (hjT hw)]; exact hTl hw) ?_⟩) h2
      rw [Array.setIfInBounds_comm _ _ hji]
      exact h3.2.2


/-- the head in the order 'ord', whose last is the turn T; then L -/
def LexU (P : Program) (ops : Array Oper) (Q : Exit → Act → World → Prop) (L : Act → World → Prop) (T : Nat) : List Nat → (World → Prop) → Act → World → Prop
  | [], _, a, w => wpOp P ops Q T L a w
  | i :: rest, G, a, w => ∃ o, ops[i]? = some o ∧
      ((∃ v, YieldsIf P ops (fun W => waitsB ops T i = true → G W) o v a ∧ LexU P ops Q L T rest G (a.put o.dst v) w) ∨
       (turns o = true ∧ wpOp P ops Q i (fun a' w' => ∃ G' : World → Prop, (∀ W, G' W → G W) ∧ G' w' ∧ LexU P ops Q L T rest G' a' w') a w))

def lexOkU (ops : Array Oper) (n g T : Nat) : List Nat → Array Bool → Bool
  | [], listed => decide (T < n) && (Region.ready .any ops listed == [T]) && Region.seqB .any ops g n (listed.setIfInBounds T true)
  | i :: rest, listed =>
    decide (i < n) && decide (i ≠ T) &&
    (match ops[i]? with
     | none => false
     | some o => if turns o then Region.ready .any ops listed == [i] else Region.free .any ops listed i && (Region.ready .any ops listed).contains i) &&
    lexOkU ops n g T rest (listed.setIfInBounds i true)

theorem lexU_held {n g T : Nat} {Lq : Act → World → Prop} (hsel : Region.noSelect ops = true) (hs : Region.sinkB .any ops n = true) (hc : Region.chainB .any ops n = true) (hn : n < ops.size)
    (hQ : ∀ (c : List PanicEntry) (a : Act) (d : Option Tmp) (v : Value) (w : World), Q (.panic c) (a.put d v) w → Q (.panic c) a w) :
    ∀ (ord : List Nat) (G : World → Prop) (listed : Array Bool) (a : Act) (w : World), lexOkU ops n g T ord listed = true → HeadInv .any ops n listed → G w → listed.getD T true = false → LexU P ops Q Lq T ord G a w →
      wpHU P ops Q n T (fun listed' a' w' => Region.seqB .any ops g n listed' = true ∧ Lq a' w') G (ord.length + 1) listed a w
  | [], G, listed, a, w, hok, _, hG, hT, h => by
    simp only [lexOkU, Bool.and_eq_true, decide_eq_true_eq] at hok
    obtain ⟨⟨h0, h1⟩, h2⟩ := hok
    have hr : Region.ready .any ops listed = [T] := by simpa using h1
    refine ⟨by rw [hr]; simp, fun j hj => ?_⟩
    rw [hr] at hj
    obtain rfl : j = T := by simpa using hj
    have hjs : j < listed.size := by
      rcases Nat.lt_or_ge j listed.size with h3 | h3
      · exact h3
      · rw [Array.getD_eq_getD_getElem?, Array.getElem?_eq_none h3] at hT
        cases hT
    refine ⟨h0, wpOp_mono (fun a' w' h' => ⟨fun hl => ?_, h2, h'⟩) h⟩
    rw [Array.getD_eq_getD_getElem?, Array.getElem?_setIfInBounds_self_of_lt hjs] at hl
    cases hl
  | i :: rest, G, listed, a, w, hok, inv, hG, hT, h => by
    obtain ⟨o, ho, hcs⟩ := h
    simp only [lexOkU, ho, Bool.and_eq_true, decide_eq_true_eq] at hok
    obtain ⟨⟨⟨hin, hiT⟩, h1⟩, h2⟩ := hok
    have hT' : (listed.setIfInBounds i true).getD T true = false := by rw [getD_set_ne true hiT]; exact hT
    rcases hcs with ⟨v, hy, hk⟩ | ⟨ht, hw⟩
    · split at h1
      · have hr : Region.ready .any ops listed = [i] := by simpa using h1
        have hir : i ∈ Region.ready .any ops listed := by rw [hr]; simp
        have ih := lexU_held (Lq := Lq) hsel hs hc hn hQ rest G _ _ w h2 (inv.set hir hin) hG hT' hk
        refine ⟨by rw [hr]; simp, fun j hj => ?_⟩
        rw [hr] at hj
        obtain rfl : j = i := by simpa using hj
        exact ⟨hin, hy.wpOp ho (fun _ => hG) ⟨fun _ => hG, ih⟩⟩
      · simp only [Bool.and_eq_true] at h1
        have hir : i ∈ Region.ready .any ops listed := by simpa using h1.2
        have ih := lexU_held (Lq := Lq) hsel hs hc hn hQ rest G _ _ w h2 (inv.set hir hin) hG hT' hk
        exact wpHU_first ho (Region.noSelect_spec hsel) hs hc hn hin (fun listed' a' w' hL => seqB_ready hL.1) (fun c a w => hQ c a o.dst v w) hiT _ _ a w inv (Region.free_spec ho h1.1) hir hy (fun _ => hG) (fun _ => hT) ih
    · rw [if_pos ht] at h1
      have hr : Region.ready .any ops listed = [i] := by simpa using h1
      have hir : i ∈ Region.ready .any ops listed := by rw [hr]; simp
      refine ⟨by rw [hr]; simp, fun j hj => ?_⟩
      rw [hr] at hj
      obtain rfl : j = i := by simpa using hj
      refine ⟨hin, wpOp_mono (fun a' w' h' => ?_) hw⟩
      obtain ⟨G', hGG, hG', hl⟩ := h'
      exact ⟨fun _ => hGG _ hG', wpHU_mono hGG _ _ _ _ (lexU_held hsel hs hc hn hQ rest G' _ a' w' h2 (inv.set hir hin) hG' hT' hl)⟩

def lexUB (ops : Array Oper) (n T : Nat) (ord : List Nat) : Bool :=
  Region.noSelect ops && decide (n < ops.size) && Region.sinkB .any ops n && Region.chainB .any ops n && decide (ord.length + 1 = n) && decide (T < ops.size) && lexOkU ops n (ops.size - n) T ord (Array.replicate ops.size false)

theorem wp_region_lexU {id : Nat} {a : Act} {w : World} {l : List Oper} (G : World → Prop) (h0 : G w.drew) (n T : Nat) (ord : List Nat) (hm : P.follows .mixedOrders = true) (hB : lexUB l.toArray n T ord = true)
    (hQ : ∀ (c : List PanicEntry) (a : Act) (d : Option Tmp) (v : Value) (w : World), Q (.panic c) (a.put d v) w → Q (.panic c) a w)
    (h : LexU P l.toArray Q (fun a' w' => wpList P l.toArray Q (l.drop n) a' w') T ord G a w.drew) : (Code.region id l.toArray true).wp P Q a w := by
  simp only [lexUB, Bool.and_eq_true, decide_eq_true_eq] at hB
  obtain ⟨⟨⟨⟨⟨⟨hsel, hn⟩, hs⟩, hc⟩, hol⟩, hTs⟩, hlex⟩ := hB
  have inv0 : HeadInv .any l.toArray n (Array.replicate l.toArray.size false) :=
    ⟨by simp, fun j oj _ hl => (by rw [getD_replicate_false] at hl; cases hl), fun t _ ht => getD_in (by simpa using ht) (getD_replicate_false _ _)⟩
  have H := lexU_held hsel hs hc hn hQ ord G _ a w.drew hlex inv0 h0 (getD_in (by simpa using hTs) (getD_replicate_false _ _)) h
  refine wp_region_any hm ?_
  have hdl : (l.drop n).length = l.toArray.size - n := by simp
  have := wpAny_of_HU (P := P) (Q := Q) (g := l.toArray.size - n) (fun listed a' w' hL => by
    have := wpAny_of_seq (P := P) (md := .any) (Q' := Q) (l.drop n) n listed a' w' (fun j => by simp [List.getElem?_drop]) (by rw [hdl]; exact hL.1) hL.2
    rwa [hdl] at this) _ _ _ _ H
  rw [hol, show n + (l.toArray.size - n) = l.toArray.size by omega] at this
  exact this

variable {L : Act → World → Prop} {T : Nat}
theorem lexu_nil {G : World → Prop} {a : Act} {w : World} {l : List Oper} {o : Oper} (ho : nthO l T = some o) (hw : Region.wanted o (yielded l.toArray a.tmps) = true) (h : ∀ K' : Act → World → Prop, Shut (∀ a' w', L a' w' → K' a' w') → Oper.wp P o a w K' Q) : LexU P l.toArray Q L T [] G a w :=
  wpOp_step ((nthO_eq l T).trans ho) fun K' hK => by
    rw [if_pos hw]
    exact h K' hK
theorem lexu_skip {G : World → Prop} {a : Act} {w : World} {l : List Oper} {i : Nat} {rest : List Nat} {o : Oper} (ho : nthO l i = some o) (hw : Region.wanted o (yielded l.toArray a.tmps) = false) (h : LexU P l.toArray Q L T rest G (a.put o.dst undef) w) :
    LexU P l.toArray Q L T (i :: rest) G a w := ⟨o, (nthO_eq l i).trans ho, .inl ⟨undef, .inr ⟨hw, rfl⟩, h⟩⟩
theorem lexu_take {G : World → Prop} {a : Act} {w : World} {l : List Oper} {i : Nat} {rest : List Nat} {o : Oper} {v : Value} (ho : nthO l i = some o) (hw : Region.wanted o (yielded l.toArray a.tmps) = true) (hT : waitsB l.toArray T i = true)
    (hy : ∀ W, G W → (execOp a.eval o).run P W = .ok (.value v) W) (h : LexU P l.toArray Q L T rest G (a.put o.dst v) w) :
    LexU P l.toArray Q L T (i :: rest) G a w := ⟨o, (nthO_eq l i).trans ho, .inl ⟨v, .inl ⟨hw, fun W hG => hy W (hG hT)⟩, h⟩⟩
theorem lexu_pure {G : World → Prop} {a : Act} {w : World} {l : List Oper} {i : Nat} {rest : List Nat} {o : Oper} {v : Value} (ho : nthO l i = some o) (hw : Region.wanted o (yielded l.toArray a.tmps) = true)
    (hy : ∀ W, (execOp a.eval o).run P W = .ok (.value v) W) (h : LexU P l.toArray Q L T rest G (a.put o.dst v) w) :
    LexU P l.toArray Q L T (i :: rest) G a w := ⟨o, (nthO_eq l i).trans ho, .inl ⟨v, .inl ⟨hw, fun W _ => hy W⟩, h⟩⟩
theorem lexu_turn {G : World → Prop} {a : Act} {w : World} {l : List Oper} {i : Nat} {rest : List Nat} {o : Oper} (ho : nthO l i = some o) (ht : turns o = true) (hw : Region.wanted o (yielded l.toArray a.tmps) = true)
    (h : ∀ K' : Act → World → Prop, Shut (∀ a' w', G w' → LexU P l.toArray Q L T rest G a' w' → K' a' w') → Oper.wp P o a w K' Q) :
    LexU P l.toArray Q L T (i :: rest) G a w :=
  ⟨o, (nthO_eq l i).trans ho, .inr ⟨ht, wpOp_step ((nthO_eq l i).trans ho) fun K' hK => by
    rw [if_pos hw]
    exact h K' fun a' w' h0 hl => hK a' w' ⟨G, fun _ hW => hW, h0, hl⟩⟩⟩
end
end Go.Proofs.YtjalimkajcjapaaDoor.B
