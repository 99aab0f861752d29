/-
  The lexical walk of a drawing region, with a say G on the world that stays one and the same (an append in place keeps it). No program is named here.
-/
import Derived.Test.YtjcgkhcbdbbdkaaLexB
namespace Go.Proofs.Ytjcgkhcbdbbdkaa
open Go.RowKit B
section
variable {P : Program} {ops : Array Oper} {Q : Exit → Act → World → Prop}

theorem wp_region_lexG {id : Nat} {a : Act} {w : World} {l : List Oper} (G : World → Prop) (h0 : G w.drew) (ord : List Nat) (hm : P.follows .mixedOrders = true) (hs : Region.noSelect l.toArray = true) (hl : ord.length = l.toArray.size)
    (hok : lexOk l.toArray ord (Array.replicate l.toArray.size false) = true)
    (hQ : ∀ (c : List PanicEntry) (a : Act) (d : Option Tmp) (v : Value) (w : World), Q (.panic c) (a.put d v) w → Q (.panic c) a w)
    (h : LexG P l.toArray Q ord G a w.drew) : (Code.region id l.toArray true).wp P Q a w := by
  have hh := lexG_held hs hQ ord _ _ a w.drew hok h0 h
  rw [hl] at hh
  exact wp_region_held hm hh

theorem lexg_take {G : World → Prop} {a : Act} {w : World} {l : List Oper} {i : Nat} {rest : List Nat} {o : Oper} {v : Value} (ho : nthO l i = some o) (hw : Region.wanted o (yielded l.toArray a.tmps) = true)
    (hy : ∀ W, G W → (execOp a.eval o).run P W = .ok (.value v) W) (h : LexG P l.toArray Q rest G (a.put o.dst v) w) :
    LexG P l.toArray Q (i :: rest) G a w := ⟨o, (nthO_eq l i).trans ho, .inl ⟨v, .inl ⟨hw, hy⟩, h⟩⟩
theorem lexg_turn {G : World → Prop} {a : Act} {w : World} {l : List Oper} {i : Nat} {rest : List Nat} {o : Oper} (ho : nthO l i = some o) (ht : turns o = true) (hw : Region.wanted o (yielded l.toArray a.tmps) = true)
    (h : ∀ K' : Act → World → Prop, Shut (∀ a' w', G w' → LexG P l.toArray Q rest G a' w' → K' a' w') → Oper.wp P o a w K' Q) :
    LexG P l.toArray Q (i :: rest) G a w :=
  ⟨o, (nthO_eq l i).trans ho, .inr ⟨ht, wpOp_step ((nthO_eq l i).trans ho) fun K' hK => by
    rw [if_pos hw]
    exact h K' fun a' w' h0 hl => hK a' w' ⟨G, fun _ hW => hW, h0, hl⟩⟩⟩

variable {w : World} {t e : TypeId} {z : Value} {size bytes : Nat}
theorem oper_app {o : Oper} {a : Act} {K : Act → World → Prop} (s x : Operand)
    (ho : o.op = .call { callee := .builtin .append, args := #[s, x], argTypes := #[t, t] })
    (E : Elem P t e z size bytes) {base : Nat} {v : Value} {n : Nat} {xs : List Value} (hown : w.ownsRow base e size v n xs) (hs : a.eval s = v)
    {S : Nat → Prop} {src : Value} {m : Nat} {news : List Value} (hr : Rd w S size src m news) (hx : a.eval x = src) (h1 : ∀ u ∈ news, u.oneCell' = true)
    (hn : (n + m) * bytes ≤ 140737488355328) (hbase : base ≤ w.heap.size)
    (h : ∀ v' w', w'.ownsRow base e size v' (n + m) (xs ++ news) → w.grownBy w' v.ownBlock → (v'.ownBlock = v.ownBlock ∨ v'.ownBlock = some w.heap.size) → K (a.put o.dst v') w') :
    Oper.wp P o a w K Q := by
  obtain ⟨v', w', hrun, h2, h3, h4⟩ := run_app E o.type hown hr h1 hn hbase
  unfold Oper.wp execOp
  simp only [ho, resolve, invoke, builtin, Sem.run_bind, Sem.run_pure, Result.andThen_ok, List.map_toArray, List.map_cons, List.map_nil, hs, hx, hrun]
  exact h v' w' h2 h3 h4

/-- the same, of elements just laid -/
theorem oper_new {o : Oper} {a : Act} {K : Act → World → Prop} (s x : Operand)
    (ho : o.op = .call { callee := .builtin .append, args := #[s, x], argTypes := #[t, t] })
    (E : Elem P t e z size bytes) {base : Nat} {v : Value} {n : Nat} {xs : List Value} (hown : w.ownsRow base e size v n xs) (hs : a.eval s = v)
    (m : Nat) (cs : Array Value) (hx : a.eval x = .slice (some ⟨w.heap.size, 0, none⟩) m m) (hm : m ≤ 16) (hcs : cs.size = m * size) (h1 : ∀ u ∈ cs.toList, u.oneCell' = true)
    (hn : (n + m) * bytes ≤ 140737488355328) (hbase : base ≤ w.heap.size)
    (h : ∀ v' w', w'.ownsRow base e size v' (n + m) (xs ++ cs.toList) → w.grownBy w' v.ownBlock → K (a.put o.dst v') w') :
    Oper.wp P o a (w.alloc (.cells cs e)) K Q :=
  oper_app s x ho E (hown.alloc _) hs (Rd.lit w cs e m (by simp only [maxLen]; omega) hcs) hx h1 hn (by rw [World.size_alloc]; omega) fun v' w' k1 k2 _ => h v' w' k1 (grow_of_alloc k2)
end

/-- a world that has grown from w0, in which a box is as it was laid -/
def Boxed (w0 : World) (bb : Nat) (cs : Array Value) (W : World) : Prop := Grow w0 W ∧ bb < W.heap.size ∧ ∀ j, W.cell? ⟨bb, j, none⟩ = cs[j]?
theorem Boxed.tr {w0 W W' : World} {bb : Nat} {cs : Array Value} (h : Boxed w0 bb cs W) (hg : Grow W W') : Boxed w0 bb cs W' :=
  ⟨h.1.tr hg, Nat.lt_of_lt_of_le h.2.1 hg.size, fun j => (hg.cell (p := ⟨bb, j, none⟩) h.2.1).trans (h.2.2 j)⟩
theorem Boxed.by_ {w0 W W' : World} {bb : Nat} {cs : Array Value} {row : Option Nat} (h : Boxed w0 bb cs W) (hg : W.grownBy W' row) (hw : ∀ k, row = some k → w0.heap.size ≤ k) (hne : some bb ≠ row) : Boxed w0 bb cs W' :=
  ⟨grow_app h.1 hg hw, Nat.lt_of_lt_of_le h.2.1 hg.size, fun j => (World.cell?_of_block (w := W) (a := ⟨bb, j, none⟩) (hg.block bb h.2.1 hne)).trans (h.2.2 j)⟩
theorem Boxed.laid {w0 w W : World} {cs : Array Value} {t : TypeId} (h : Grow w0 w) (hg : Grow (w.alloc (.cells cs t)) W) : Boxed w0 w.heap.size cs W :=
  ⟨(h.al _).tr hg, Nat.lt_of_lt_of_le (by rw [World.size_alloc]; omega) hg.size, fun j => box_at hg j⟩
end Go.Proofs.Ytjcgkhcbdbbdkaa
