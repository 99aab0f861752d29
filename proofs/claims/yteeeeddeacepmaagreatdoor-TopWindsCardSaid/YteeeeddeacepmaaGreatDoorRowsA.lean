import Derived.Test.YteeeeddeacepmaaGreatDoorRngB
import Derived.Test.YteeeeddeacepmaaGreatDoorSimpA
namespace Go.Proofs.YteeeeddeacepmaaGreatDoor
set_option maxRecDepth 100000
open Go.RowKit
structure PRow where
 v : Value
 l : List Pt
def PRow.rd (w : World) (S : Nat -> Prop) (r : PRow) : Prop := Rd w S 2 r.v r.l.length (Pts r.l)
theorem rd_cell {w W : World} {S : Nat -> Prop} {v : Value} {xs : List Value} {n i b o c : Nat} (hW : Grow w W) (h : Rd w S 1 v n xs) (hv : v = .slice (some ⟨b, o, none⟩) n c) (hi : i < xs.length) : W.cell? ⟨b, o + i, none⟩ = some xs[i] := by
 obtain ⟨hl, A, c', rfl, h1, h2, h3, h4⟩ := h; injection hv with hA _ _
 subst hA; obtain ⟨b', o', hA, _, hc⟩ := h4 (by omega); injection hA with hA
 injection hA with e1 e2
 subst e1 e2; have := hc i xs[i] (List.getElem?_eq_getElem hi); exact (hW.cell (World.block_lt_of_cell? w _ this)).trans this
end Go.Proofs.YteeeeddeacepmaaGreatDoor
namespace Go.Proofs.YteeeeddeacepmaaGreatDoor
set_option maxRecDepth 100000
open Go.RowKit
end Go.Proofs.YteeeeddeacepmaaGreatDoor
namespace Go.Proofs.YteeeeddeacepmaaGreatDoor
set_option maxRecDepth 100000
open Go.RowKit
def Ins (v : Value) : Nat -> Prop := fun b => some b ≠ v.ownBlock
def RowsIn (w : World) (v : Value) (rows : List PRow) : Prop := ∀ r ∈ rows, r.rd w (Ins v)
theorem Rd.and_lt {w : World} {S : Nat -> Prop} {size n : Nat} {v : Value} {xs : List Value} (h : Rd w S size v n xs) (h0 : 0 < size) : Rd w (fun b => S b /\ b < w.heap.size) size v n xs := by
 have hl := h.lt h0; obtain ⟨hl0, A, c, hv, h1, h2, h3, h4⟩ := h; refine ⟨hl0, A, c, hv, h1, h2, h3, fun hn => ?_⟩; obtain ⟨b, o, hA, hSb, hc⟩ := h4 hn; have hx : 0 < xs.length := by rw [hl0]; exact Nat.mul_pos hn h0
 exact ⟨b, o, hA, ⟨hSb, World.block_lt_of_cell? w _ (hc 0 xs[0] (List.getElem?_eq_getElem hx))⟩, hc⟩
theorem RowsIn.grow {w w' : World} {v : Value} {rows : List PRow} (h : RowsIn w v rows) (hg : Grow w w') : RowsIn w' v rows := fun r hr => (h r hr).gr2 (by decide) hg
theorem Rd.ins_app {w w' : World} {size n : Nat} {v v' x : Value} {xs : List Value} (h : Rd w (Ins v) size x n xs) (h0 : 0 < size) (hg : w.grownBy w' v.ownBlock) (hb : v'.ownBlock = v.ownBlock ∨ v'.ownBlock = some (w.heap.size + 1)) : Rd w' (Ins v') size x n xs := by
 have h1 := (h.and_lt h0).by_ h0 hg (fun b hb => hb.1); refine h1.into fun b hb1 => ?_
 unfold Ins at hb1 ⊢; rcases hb with hb | hb
 ·rw [hb]; exact hb1.1
 ·rw [hb]
  intro e; injection e with e
  omega
theorem RowsIn.app {w w' : World} {v v' : Value} {rows : List PRow} {r : PRow} (h : RowsIn w v rows) (hr : r.rd w (Ins v)) (hg : w.grownBy w' v.ownBlock) (hb : v'.ownBlock = v.ownBlock ∨ v'.ownBlock = some (w.heap.size + 1)) : RowsIn w' v' (rows ++ [r]) := by
 intro q hq; rcases List.mem_append.1 hq with hq | hq
 ·exact (h q hq).ins_app (by decide) hg hb
 ·rw [List.mem_singleton.1 hq]
  exact Rd.ins_app hr (by decide) hg hb
theorem RowsIn.new {w1 w2 : World} {e e' base size n m : Nat} {v x : Value} {xs : List Value} {l : List Pt} (h : w1.ownsRow base e size v n xs) (h2 : w2.ownsRow w1.heap.size e' 2 x m (Pts l)) (hm : m = l.length := by rfl) : PRow.rd w2 (Ins v) ⟨x, l⟩ := by
 subst hm; refine (Rd.own_from h2).into fun b hb => ?_
 intro e; have := (h.lt b e.symm).2; omega
end Go.Proofs.YteeeeddeacepmaaGreatDoor
namespace Go.Proofs.YteeeeddeacepmaaGreatDoor
set_option maxRecDepth 100000
open Go.RowKit Go.Lib B
def SRow.rd (w : World) (S : Nat -> Prop) (r : SRow) : Prop := Rd w S 6 r.v r.l.length (Spots r.l)
end Go.Proofs.YteeeeddeacepmaaGreatDoor
namespace Go.Proofs.YteeeeddeacepmaaGreatDoor
set_option maxRecDepth 100000
open Go.RowKit
def Ns (l : List Nat) : List Value := l.map fun n : Nat => .int .i64 (n : Int)
structure IRow where
 v : Value
 l : List Nat
theorem own_form {w : World} {base size n : Nat} {e : TypeId} {v : Value} {xs : List Value} (h : w.ownsRow base e size v n xs) (hn : 0 < n) : ∃ g cap, v = .slice (some ⟨g, 0, none⟩) n cap := by
 rcases h.2 with ⟨_, h0⟩ | ⟨g, cap, _, hv, _⟩
 ·omega
 ·exact ⟨g, cap, hv⟩
structure Grp (W : World) (base : Nat) (s : Value) (m : Nat) (rows : List IRow) : Prop where
 out : W.ownsRow base 253 1 s m (rows.map IRow.v)
 each : ∀ r ∈ rows, W.ownsRow base 3 1 r.v r.l.length (Ns r.l) /\ r.v.ownBlock ≠ none /\ r.v.ownBlock ≠ s.ownBlock
 dist : rows.Pairwise (fun r q => r.v.ownBlock ≠ q.v.ownBlock)
theorem Grp.nil (W : World) (base : Nat) : Grp W base (.slice none 0 0) 0 [] := ⟨World.ownsRow_nil _ _ _ _, fun r hr => by simp at hr, List.Pairwise.nil⟩
theorem Grp.grow {W W' : World} {base m : Nat} {s : Value} {rows : List IRow} (h : Grp W base s m rows) (hg : Grow W W') : Grp W' base s m rows :=
 ⟨own_grow h.out hg, fun r hr => ⟨own_grow (h.each r hr).1 hg, (h.each r hr).2⟩, h.dist⟩
theorem Grp.blk {W : World} {base m : Nat} {s : Value} {rows : List IRow} (h : Grp W base s m rows) {r : IRow} (hr : r ∈ rows) {b : Nat} (hb : W.heap.size <= b) : r.v.ownBlock ≠ some b := by
 intro e; have := ((h.each r hr).1.lt b e).2; omega
theorem Grp.app {W w' : World} {base m i : Nat} {s v' : Value} {rows : List IRow} (h : Grp W base s m rows) (hb : base <= W.heap.size)
  (ho : w'.ownsRow base 253 1 v' (m + 1) (rows.map IRow.v ++ [.slice (some ⟨W.heap.size, 0, none⟩) 1 1]))
  (hg : (W.alloc (.cells #[.int .i64 i] 3)).grownBy w' s.ownBlock) (hbk : v'.ownBlock = s.ownBlock ∨ v'.ownBlock = some ((W.alloc (.cells #[.int .i64 i] 3)).heap.size + 1)) :
  Grp w' base v' (m + 1) (rows ++ [⟨.slice (some ⟨W.heap.size, 0, none⟩) 1 1, [i]⟩]) := by
 have hs : s.ownBlock ≠ some W.heap.size := by
  intro e; have := (h.out.lt _ e).2; omega
 have hv' : v'.ownBlock ≠ some W.heap.size := by
  rcases hbk with e | e
  ·rw [e]; exact hs
  ·rw [e, World.size_alloc]; intro e2; injection e2 with e2; omega
 have hnew : (W.alloc (.cells #[.int .i64 i] 3)).ownsRow base 3 1 (.slice (some ⟨W.heap.size, 0, none⟩) 1 1) 1 (Ns [i]) :=
  ⟨rfl, .inr ⟨W.heap.size, 1, #[.int .i64 i], rfl, hb, heap_alloc_new _ _, Nat.le_refl _, by decide, rfl, rfl⟩⟩
 refine ⟨by rw [List.map_append]; exact ho, ?_, ?_⟩
 ·intro r hr
  rcases List.mem_append.1 hr with hr | hr
  ·obtain ⟨h1, h2, h3⟩ := h.each r hr
   refine ⟨(own_grow h1 ((Grow.refl W).al _)).kept hg (.inr h3), h2, ?_⟩; rcases hbk with e | e
   ·rw [e]; exact h3
   ·rw [e]; exact h.blk hr (by rw [World.size_alloc]; omega)
  ·rw [List.mem_singleton.1 hr]
   exact ⟨hnew.kept hg (.inr (fun e => hs e.symm)), by simp [Value.ownBlock], fun e => hv' e.symm⟩
 ·rw [List.pairwise_append]
  refine ⟨h.dist, List.pairwise_singleton _ _, fun r hr q hq => ?_⟩; rw [List.mem_singleton.1 hq]; exact h.blk hr (Nat.le_refl _)
theorem Grp.last {W w' : World} {base m i g c : Nat} {v' : Value} {init : List IRow} {r : IRow} (h : Grp W base (.slice (some ⟨g, 0, none⟩) m c) m (init ++ [r])) (_ : m = init.length + 1)
  (ho : w'.ownsRow base 3 1 v' (r.l.length + 1) (Ns r.l ++ [.int .i64 i])) (hg : W.grownBy w' r.v.ownBlock) (hbk : v'.ownBlock = r.v.ownBlock ∨ v'.ownBlock = some (W.heap.size + 1)) :
  Grp (w'.setCell ⟨g, init.length, none⟩ v') base (.slice (some ⟨g, 0, none⟩) m c) m (init ++ [⟨v', r.l ++ [i]⟩]) := by
 have hr := h.each r (List.mem_append.2 (.inr (List.mem_singleton.2 rfl))); have hgl : g < W.heap.size := (h.out.lt g rfl).2
 have hv' : v'.ownBlock ≠ some g := by
  rcases hbk with e | e
  ·rw [e]; exact hr.2.2
  ·rw [e]; intro e2; injection e2 with e2; omega
 have h1 := h.out.kept hg (.inr (fun e => hr.2.2 e.symm)); obtain ⟨h2, h3⟩ := h1.stored init.length v'; have hd := List.pairwise_append.1 h.dist; refine ⟨?_, ?_, ?_⟩
 ·refine own_eq h2 rfl ?_
  rw [List.map_append, List.map_append, List.set_append_right _ _ (by simp)]; simp
 ·intro q hq
  rcases List.mem_append.1 hq with hq | hq
  ·obtain ⟨q1, q2, q3⟩ := h.each q (List.mem_append.2 (.inl hq))
   refine ⟨(q1.kept hg (.inr (hd.2.2 q hq r (List.mem_singleton.2 rfl)))).kept h3 (.inr q3), q2, q3⟩
  ·rw [List.mem_singleton.1 hq]
   refine ⟨own_eq (ho.kept h3 (.inr hv')) (by simp) (by simp [Ns]), ?_, hv'⟩; obtain ⟨g', cap, e⟩ := own_form ho (by omega); dsimp only; rw [e]; simp [Value.ownBlock]
 ·rw [List.pairwise_append]
  refine ⟨hd.1, List.pairwise_singleton _ _, fun q hq p hp => ?_⟩; rw [List.mem_singleton.1 hp]; rcases hbk with e | e
  ·dsimp only; rw [e]; exact hd.2.2 q hq r (List.mem_singleton.2 rfl)
  ·dsimp only; rw [e]; exact h.blk (List.mem_append.2 (.inl hq)) (by omega)
def appendLast (gs : List (List Nat)) (i : Nat) : List (List Nat) :=
 match gs.reverse with
 | [] => []
 | g :: t => t.reverse ++ [g ++ [i]]
def stepG (st : List (List Nat) × Int) (i : Nat) (s : Int) : List (List Nat) × Int :=
 if s = 0 then st else if st.2 = 0 then (st.1 ++ [[i]], s) else if s = st.2 then (st.1 ++ [[i]], st.2) else (appendLast st.1 i, st.2)
end Go.Proofs.YteeeeddeacepmaaGreatDoor
