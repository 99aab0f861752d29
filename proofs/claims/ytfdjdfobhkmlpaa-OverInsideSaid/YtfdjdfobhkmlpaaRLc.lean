/-
  The reference's lines, fourth part: Segment. The reference's lines, fifth part: Same, put, Is, IsAll. The reference's lines, sixth part: Clip.
-/
import Derived.Test.YtfdjdfobhkmlpaaChecked
import Derived.Test.YtfdjdfobhkmlpaaRLb
import Derived.Deep.Cut
import Derived.Test.YtfdjdfobhkmlpaaLValA
import Derived.Laws.OwnMore
namespace Go.Proofs.Ytfdjdfobhkmlpaa
open Go.RowKit Go.Lib B

theorem segBad_or (p q : Pt) (lo hi : Int) : segBad p q lo hi = (decide (hi < lo) || (p.far || (q.far || (!inw lo || !inw hi)))) := by
  unfold segBad Pt.far
  simp only [List.any_cons, List.any_nil, Bool.or_false, Bool.or_assoc]

end Go.Proofs.Ytfdjdfobhkmlpaa

namespace Go.Proofs.Ytfdjdfobhkmlpaa
open Go.RowKit Go.Lib B

def PVs (l : List PV) : List Value := l.flatMap PV.cells
theorem PVs_app (l m : List PV) : PVs (l ++ m) = PVs l ++ PVs m := List.flatMap_append
theorem PVs_len (l : List PV) : (PVs l).length = l.length * 8 := flat_len _ _ PV.cells_len l
def putP (l : List PV) (s : PV) : List PV := if (l.getLast?.any fun x => sameQ x.q s.q) = true then l else l ++ [s]
theorem putP_len (l : List PV) (s : PV) : (putP l s).length ≤ l.length + 1 := by unfold putP; split <;> simp
theorem cmpR_eqb (a b : Rat) : (cmpR a b == 0) = decide (a = b) := by
  rw [Bool.eq_iff_iff, beq_iff_eq, cmpR_eq, decide_eq_true_eq]

end Go.Proofs.Ytfdjdfobhkmlpaa

namespace Go.Proofs.Ytfdjdfobhkmlpaa
open Go.RowKit B

structure PRw where
  v : Value
  l : List PV
theorem BigR.by_ {w w' : World} {S : Nat → Prop} {v : Value} {z : Int} {k : Nat} {row : Option Nat} (h : BigR w S v z k) (hg : w.grownBy w' row) (hS : ∀ b, S b → some b ≠ row) : BigR w' S v z k := by
  obtain ⟨h1, m, h2, h3⟩ := h
  exact ⟨h1, m, h2, h3.by_ (by decide) hg hS⟩
theorem RV.rd.by_ {r : RV} {w w' : World} {S : Nat → Prop} {k : Nat} {row : Option Nat} (h : r.rd w S k) (hg : w.grownBy w' row) (hS : ∀ b, S b → some b ≠ row) : r.rd w' S k := by
  obtain ⟨n, d, h1, h2, p, A, x, c, p', A', x', c', h3, h4, h5⟩ := h
  exact ⟨n, d, h1, h2, p, A, x, c, p', A', x', c', h3, h4.by_ hg hS, h5.by_ hg hS⟩
theorem PV.rd.by_ {p : PV} {w w' : World} {S : Nat → Prop} {k : Nat} {row : Option Nat} (h : p.rd w S k) (hg : w.grownBy w' row) (hS : ∀ b, S b → some b ≠ row) : p.rd w' S k := ⟨h.1.by_ hg hS, h.2.by_ hg hS⟩
def OffB (pv qv : Value) (b : Nat) : Prop := some b ≠ pv.ownBlock ∧ some b ≠ qv.ownBlock
theorem Fresh.off {W : World} {v v' : Value} {b : Nat} (h : Fresh W v v') (hb : b < W.heap.size) (hv : some b ≠ v.ownBlock) : some b ≠ v'.ownBlock := fun e => h.ne hb (fun e2 => hv e2.symm) e.symm
theorem putQ_len (l : List PtQ) (s : PtQ) : (putQ l s).length ≤ l.length + 1 := by unfold putQ; split <;> simp
theorem partQ_len (l : List Pt) (lo hi : Int) (part : List PtQ) (k : Nat) (h : part.length ≤ 2 * k) : (partQ l lo hi part k).length ≤ 2 * (k + 1) := by
  unfold partQ
  split
  · omega
  · split
    · split
      · simp; omega
      · omega
    · split
      · omega
      · split
        · refine Nat.le_trans (putQ_len _ _) ?_
          refine Nat.le_trans (Nat.succ_le_succ (putQ_len _ _)) ?_
          omega
        · omega
theorem clipQTo_len (l : List Pt) (lo hi : Int) : ∀ k, (clipQTo l lo hi k).1.length ≤ k ∧ (clipQTo l lo hi k).2.length ≤ 2 * k
  | 0 => ⟨Nat.le_refl _, Nat.le_refl _⟩
  | k + 1 => by
    obtain ⟨h1, h2⟩ := clipQTo_len l lo hi k
    rw [clipQTo_succ]
    unfold stepQ
    have h3 := partQ_len l lo hi _ k h2
    split
    · omega
    · split
      · unfold flQ
        dsimp only
        refine ⟨?_, by simp⟩
        rw [List.length_append]
        split <;> simp <;> omega
      · dsimp only; omega
theorem putP_q (l : List PV) (s : PV) : (putP l s).map PV.q = putQ (l.map PV.q) s.q := by
  unfold putP putQ
  rw [List.getLast?_map]
  cases h : l.getLast? with
  | none => simp
  | some x =>
    simp only [Option.map_some, Option.any_some]
    split <;> simp

theorem putP_mem {l : List PV} {s x : PV} (h : x ∈ putP l s) : x ∈ l ∨ x = s := by
  unfold putP at h
  split at h
  · exact .inl h
  · rcases List.mem_append.1 h with h | h
    · exact .inl h
    · exact .inr (List.mem_singleton.1 h)
def RQ (rows : List PRw) : List (List PtQ) := rows.map fun x => x.l.map PV.q
theorem stepQ_at {l : List Pt} {lo hi : Int} {k : Nat} {p : Pt} (h : l[k]? = some p) (st : QS) : stepQ l lo hi st k = if p.inside lo hi = false ∨ k + 1 = l.length then flQ (st.1, partQ l lo hi st.2 k) else (st.1, partQ l lo hi st.2 k) := by
  unfold stepQ
  rw [h]

end Go.Proofs.Ytfdjdfobhkmlpaa
