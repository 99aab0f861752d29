/-
  Groups: rows of numbers in a row, all of the call's own.
-/
import Derived.Test.YtfdjdfobhkmlpaaRowsOwn
import Derived.Test.YtfdjdfobhkmlpaaCore
namespace Go.Proofs.Ytfdjdfobhkmlpaa
open Go.RowKit

def Ns (l : List Nat) : List Value := l.map fun n : Nat => .int .i64 (n : Int)
structure IRow where
  v : Value
  l : List Nat
theorem own_form {w : World} {base size n : Nat} {e : TypeId} {v : Value} {xs : List Value} (h : w.ownsRow base e size v n xs) (hn : 0 < n) : ∃ g cap, v = .slice (some ⟨g, 0, none⟩) n cap := by
  rcases h.2 with ⟨_, h0⟩ | ⟨g, cap, _, hv, _⟩
  · omega
  · exact ⟨g, cap, hv⟩
theorem own_free {w : World} {base size n g c : Nat} {e : TypeId} {xs : List Value} (h : w.ownsRow base e size (.slice (some ⟨g, 0, none⟩) n c) n xs) (j : Nat) : w.frozen? ⟨g, j, none⟩ = false := by
  rcases h.2 with ⟨h0, _⟩ | ⟨g', cap, cur, hv, _, hh, _⟩
  · cases h0
  · injection hv with e1 _ _
    injection e1 with e1
    injection e1 with e1
    subst e1
    exact frozen_of_row w g j cur e hh
structure Grp (W : World) (base : Nat) (s : Value) (m : Nat) (rows : List IRow) : Prop where
  out : W.ownsRow base 48 1 s m (rows.map IRow.v)
  each : ∀ r ∈ rows, W.ownsRow base 3 1 r.v r.l.length (Ns r.l) ∧ r.v.ownBlock ≠ none ∧ r.v.ownBlock ≠ s.ownBlock
  dist : rows.Pairwise (fun r q => r.v.ownBlock ≠ q.v.ownBlock)
theorem Grp.nil (W : World) (base : Nat) : Grp W base (.slice none 0 0) 0 [] := ⟨World.ownsRow_nil _ _ _ _, fun r hr => by simp at hr, List.Pairwise.nil⟩
theorem Grp.grow {W W' : World} {base m : Nat} {s : Value} {rows : List IRow} (h : Grp W base s m rows) (hg : Grow W W') : Grp W' base s m rows :=
  ⟨own_grow h.out hg, fun r hr => ⟨own_grow (h.each r hr).1 hg, (h.each r hr).2⟩, h.dist⟩
theorem Grp.blk {W : World} {base m : Nat} {s : Value} {rows : List IRow} (h : Grp W base s m rows) {r : IRow} (hr : r ∈ rows) {b : Nat} (hb : W.heap.size ≤ b) : r.v.ownBlock ≠ some b := by
  intro e
  have := ((h.each r hr).1.lt b e).2
  omega

theorem Grp.app {W w' : World} {base m i : Nat} {s v' : Value} {rows : List IRow} (h : Grp W base s m rows) (hb : base ≤ W.heap.size)
    (ho : w'.ownsRow base 48 1 v' (m + 1) (rows.map IRow.v ++ [.slice (some ⟨W.heap.size, 0, none⟩) 1 1]))
    (hg : (W.alloc (.cells #[.int .i64 i] 3)).grownBy w' s.ownBlock) (hbk : v'.ownBlock = s.ownBlock ∨ v'.ownBlock = some ((W.alloc (.cells #[.int .i64 i] 3)).heap.size + 1)) :
    Grp w' base v' (m + 1) (rows ++ [⟨.slice (some ⟨W.heap.size, 0, none⟩) 1 1, [i]⟩]) := by
  have hs : s.ownBlock ≠ some W.heap.size := by
    intro e
    have := (h.out.lt _ e).2
    omega
  have hv' : v'.ownBlock ≠ some W.heap.size := by
    rcases hbk with e | e
    · rw [e]; exact hs
    · rw [e, World.size_alloc]; intro e2; injection e2 with e2; omega
  have hnew : (W.alloc (.cells #[.int .i64 i] 3)).ownsRow base 3 1 (.slice (some ⟨W.heap.size, 0, none⟩) 1 1) 1 (Ns [i]) :=
    ⟨rfl, .inr ⟨W.heap.size, 1, #[.int .i64 i], rfl, hb, heap_alloc_new _ _, Nat.le_refl _, by decide, rfl, rfl⟩⟩
  refine ⟨by rw [List.map_append]; exact ho, ?_, ?_⟩
  · intro r hr
    rcases List.mem_append.1 hr with hr | hr
    · obtain ⟨h1, h2, h3⟩ := h.each r hr
      refine ⟨(own_grow h1 ((Grow.refl W).al _)).kept hg (.inr h3), h2, ?_⟩
      rcases hbk with e | e
      · rw [e]; exact h3
      · rw [e]; exact h.blk hr (by rw [World.size_alloc]; omega)
    · rw [List.mem_singleton.1 hr]
      exact ⟨hnew.kept hg (.inr (fun e => hs e.symm)), by simp [Value.ownBlock], fun e => hv' e.symm⟩
  · rw [List.pairwise_append]
    refine ⟨h.dist, List.pairwise_singleton _ _, fun r hr q hq => ?_⟩
    rw [List.mem_singleton.1 hq]
    exact h.blk hr (Nat.le_refl _)

theorem Grp.last {W w' : World} {base m i g c : Nat} {v' : Value} {init : List IRow} {r : IRow} (h : Grp W base (.slice (some ⟨g, 0, none⟩) m c) m (init ++ [r])) (_ : m = init.length + 1)
    (ho : w'.ownsRow base 3 1 v' (r.l.length + 1) (Ns r.l ++ [.int .i64 i])) (hg : W.grownBy w' r.v.ownBlock) (hbk : v'.ownBlock = r.v.ownBlock ∨ v'.ownBlock = some (W.heap.size + 1)) :
    Grp (w'.setCell ⟨g, init.length, none⟩ v') base (.slice (some ⟨g, 0, none⟩) m c) m (init ++ [⟨v', r.l ++ [i]⟩]) := by
  have hr := h.each r (List.mem_append.2 (.inr (List.mem_singleton.2 rfl)))
  have hgl : g < W.heap.size := (h.out.lt g rfl).2
  have hv' : v'.ownBlock ≠ some g := by
    rcases hbk with e | e
    · rw [e]; exact hr.2.2
    · rw [e]; intro e2; injection e2 with e2; omega
  have h1 := h.out.kept hg (.inr (fun e => hr.2.2 e.symm))
  obtain ⟨h2, h3⟩ := h1.stored init.length v'
  have hd := List.pairwise_append.1 h.dist
  refine ⟨?_, ?_, ?_⟩
  · refine own_eq h2 rfl ?_
    rw [List.map_append, List.map_append, List.set_append_right _ _ (by simp)]
    simp
  · intro q hq
    rcases List.mem_append.1 hq with hq | hq
    · obtain ⟨q1, q2, q3⟩ := h.each q (List.mem_append.2 (.inl hq))
      refine ⟨(q1.kept hg (.inr (hd.2.2 q hq r (List.mem_singleton.2 rfl)))).kept h3 (.inr q3), q2, q3⟩
    · rw [List.mem_singleton.1 hq]
      refine ⟨own_eq (ho.kept h3 (.inr hv')) (by simp) (by simp [Ns]), ?_, hv'⟩
      obtain ⟨g', cap, e⟩ := own_form ho (by omega)
      dsimp only
      rw [e]; simp [Value.ownBlock]
  · rw [List.pairwise_append]
    refine ⟨hd.1, List.pairwise_singleton _ _, fun q hq p hp => ?_⟩
    rw [List.mem_singleton.1 hp]
    rcases hbk with e | e
    · dsimp only; rw [e]; exact hd.2.2 q hq r (List.mem_singleton.2 rfl)
    · dsimp only; rw [e]; exact h.blk (List.mem_append.2 (.inl hq)) (by omega)

/-- the last of the groups gets one more -/
def appendLast (gs : List (List Nat)) (i : Nat) : List (List Nat) :=
  match gs.reverse with
  | [] => []
  | g :: t => t.reverse ++ [g ++ [i]]
theorem appendLast_snoc (a : List (List Nat)) (g : List Nat) (i : Nat) : appendLast (a ++ [g]) i = a ++ [g ++ [i]] := by simp [appendLast]
def stepG (st : List (List Nat) × Int) (i : Nat) (s : Int) : List (List Nat) × Int :=
  if s = 0 then st else if st.2 = 0 then (st.1 ++ [[i]], s) else if s = st.2 then (st.1 ++ [[i]], st.2) else (appendLast st.1 i, st.2)
def groupsAt (f : Nat → Int) : Nat → List (List Nat) × Int
  | 0 => ([], 0)
  | k + 1 => stepG (groupsAt f k) k (f k)
theorem appendLast_ne {gs : List (List Nat)} {i : Nat} (h : gs ≠ []) : appendLast gs i ≠ [] := by
  rcases List.eq_nil_or_concat gs with rfl | ⟨a, g, rfl⟩
  · exact absurd rfl h
  · rw [List.concat_eq_append, appendLast_snoc]; simp
theorem groupsAt_ne (f : Nat → Int) : ∀ k, (groupsAt f k).2 ≠ 0 → (groupsAt f k).1 ≠ []
  | 0 => fun h => absurd rfl h
  | k + 1 => by
    have ih := groupsAt_ne f k
    simp only [groupsAt, stepG]
    split
    · exact ih
    · split
      · intro _; simp
      · split
        · intro _; simp
        · intro h; exact appendLast_ne (ih h)
end Go.Proofs.Ytfdjdfobhkmlpaa
