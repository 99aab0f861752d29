/-
  Layers as they lie; what counts of them.
-/
import Derived.Test.YtjalimkajcjapaaDoorChecked
import Derived.Test.YtjalimkajcjapaaDoorRfE
namespace Go.Proofs.YtjalimkajcjapaaDoor
open Go.RowKit B

/-- a layer as it lies: its cells, its features -/
structure LyR where
  nm : ByteArray
  ext : Int
  fv : Value
  F : List FtR
def LyR.cells (x : LyR) : List Value := [.string x.nm, .int .i64 x.ext, x.fv]
theorem LyR.cells_len (x : LyR) : x.cells.length = 3 := rfl
def Lys (l : List LyR) : List Value := l.flatMap LyR.cells
def LyR.rd (x : LyR) (w : World) (S : Nat → Prop) : Prop := Rd w S 5 x.fv x.F.length (Fts x.F) ∧ ∀ f ∈ x.F, f.rd w S
theorem LyR.rd.gr {x : LyR} {w w' : World} {S : Nat → Prop} (h : x.rd w S) (hg : Grow w w') : x.rd w' S := ⟨h.1.gr2 (by decide) hg, fun f hf => (h.2 f hf).gr hg⟩
/-- what counts of a layer -/
def LyR.pl (x : LyR) : ByteArray × Int × List (Bool × Nat × Int × List (List Pt) × List (ByteArray × Val)) := (x.nm, x.ext, x.F.map FtR.pl)
theorem LyR.pl_iff {x y : LyR} : x.pl = y.pl ↔ x.nm = y.nm ∧ x.ext = y.ext ∧ x.F.map FtR.pl = y.F.map FtR.pl := by
  unfold LyR.pl
  simp only [Prod.mk.injEq]
/-- rows of layers that lie in the blocks of S, their features' rows too -/
def LysRd (w : World) (S : Nat → Prop) (v : Value) (L : List LyR) : Prop := Rd w S 3 v L.length (Lys L) ∧ ∀ x ∈ L, x.rd w S
theorem LysRd.gr {w w' : World} {S : Nat → Prop} {v : Value} {L : List LyR} (h : LysRd w S v L) (hg : Grow w w') : LysRd w' S v L := ⟨h.1.gr2 (by decide) hg, fun x hx => (h.2 x hx).gr hg⟩
/-- what a program's layer may hold at most -/
def AtrOk (a : Atr) : Prop := a.key.size ≤ maxLen ∧ I64 a.val.k ∧ U64 a.val.b ∧ a.val.t.size ≤ maxLen
structure FtR.ok (f : FtR) : Prop where
  id : f.f.id < 18446744073709551616
  ty : I64 f.f.ty
  pts : ∀ r ∈ f.A, r.l.length ≤ 140737488355328
  atr : ∀ a ∈ f.B, a.ok
structure LyR.ok (x : LyR) : Prop where
  nm : x.nm.size ≤ maxLen
  ext : I64 x.ext
  ft : ∀ f ∈ x.F, f.ok
theorem take_plL {A B : List LyR} {k : Nat} (h1 : k < A.length) (h2 : k < B.length) (ht : (A.take k).map LyR.pl = (B.take k).map LyR.pl) (he : A[k].pl = B[k].pl) : (A.take (k + 1)).map LyR.pl = (B.take (k + 1)).map LyR.pl := by
  rw [List.take_succ_eq_append_getElem h1, List.take_succ_eq_append_getElem h2, List.map_append, List.map_append, ht, List.map_singleton, List.map_singleton, he]
theorem plL_at {A B : List LyR} {k : Nat} (h1 : k < A.length) (h2 : k < B.length) (h : A.map LyR.pl = B.map LyR.pl) : A[k].pl = B[k].pl := by
  have := congrArg (fun l => l[k]?) h
  simp only [List.getElem?_map, List.getElem?_eq_getElem h1, List.getElem?_eq_getElem h2, Option.map_some, Option.some.injEq] at this
  exact this
end Go.Proofs.YtjalimkajcjapaaDoor
