/-
  The reference's points (portolanref09). The reference's Decode (portolanref09): points. The reference's Decode (portolanref09): lines and polygons.
-/
import Derived.Test.YtjalimkajcjapaaDoorChecked
import Derived.Test.YtjalimkajcjapaaDoorPDecA
namespace Go.Proofs.YtjalimkajcjapaaDoor
open Go.RowKit B

theorem ptsS_err : ∀ (n : Nat) (a : Pt) (l : List Int) (e : Int), ptsS n a l = .error e → e = 2 ∨ e = 8
  | 0, a, l, e, h => by simp [ptsS] at h
  | n + 1, a, [], e, h => by simp [ptsS] at h; exact .inl h.symm
  | n + 1, a, [x], e, h => by
    simp only [ptsS] at h
    split at h <;> simp at h <;> simp [← h]
  | n + 1, a, x :: y :: l, e, h => by
    simp only [ptsS] at h
    split at h
    · simp at h; exact .inr h.symm
    · split at h
      · simp at h; exact .inr h.symm
      · cases hq : ptsS n ⟨a.x + zag x, a.y + zag y⟩ l with
        | error e' => rw [hq] at h; simp at h; subst h; exact ptsS_err n _ l _ hq
        | ok q => rw [hq] at h; simp at h

end Go.Proofs.YtjalimkajcjapaaDoor

namespace Go.Proofs.YtjalimkajcjapaaDoor
open Go.RowKit B

theorem last_cells {w : World} {base n : Nat} {e : TypeId} {v : Value} {ps : List Pt} (h : w.ownsRow base e 2 v ps.length (Pts ps)) (hn : ps.length = n + 1) (a : Pt) :
    ∃ b o c, v = .slice (some ⟨b, o, none⟩) (n + 1) c ∧ n + 1 ≤ c ∧ c ≤ 2 ^ 63 - 1 ∧ base ≤ b ∧ b < w.heap.size ∧ w.cell? ⟨b, o + n * 2, none⟩ = some (.int .i64 (lastPt a ps).x) ∧ w.cell? ⟨b, o + n * 2 + 1, none⟩ = some (.int .i64 (lastPt a ps).y) := by
  have hb := h.lt
  obtain ⟨_, A, c, rfl, h1, h2, h3, h4⟩ := (Rd.own h)
  obtain ⟨b, o, rfl, hS, hc⟩ := h4 (by omega)
  have hlt : n < ps.length := by omega
  have e1 := flat_cells Pt.cells_len (Grow.refl w) (hb b hS.symm).2 hc hlt
  have hl : lastPt a ps = ps[n] := by
    unfold lastPt
    rw [List.getLast?_eq_getElem?, show ps.length - 1 = n by omega, List.getElem?_eq_getElem hlt]
    rfl
  rw [hl]
  refine ⟨b, o, c, by rw [hn], by omega, h2, (hb b hS.symm).1, (hb b hS.symm).2, ?_, e1 1 _ rfl⟩
  exact e1 0 _ rfl

end Go.Proofs.YtjalimkajcjapaaDoor

namespace Go.Proofs.YtjalimkajcjapaaDoor
open Go.RowKit B

section
variable {l : List Int} {i : Nat} {k low high : Int} {a : Pt}
theorem cmd_end (h : l.length ≤ i) : cmdS k low high a (l.drop i) = .error 2 := by rw [List.drop_eq_nil_of_le h]; rfl
theorem cmd_bad (h : i < l.length) (hb : l[i] % 8 ≠ k ∨ l[i] / 8 < low ∨ high < l[i] / 8) : cmdS k low high a (l.drop i) = .error 3 := by
  rw [List.drop_eq_getElem_cons h]
  simp only [cmdS]
  rw [if_pos hb]
theorem cmd_go (h : i < l.length) (hb : ¬ (l[i] % 8 ≠ k ∨ l[i] / 8 < low ∨ high < l[i] / 8)) : cmdS k low high a (l.drop i) = ptsS (l[i] / 8).toNat a (l.drop (i + 1)) := by
  rw [List.drop_eq_getElem_cons h]
  simp only [cmdS]
  rw [if_neg hb]
theorem end_no {kind : Int} {p : List Pt} {j : Nat} (h : kind ≠ 3) : endS kind p (l.drop j) = .ok (p, l.drop j) := by unfold endS; rw [if_neg h]
theorem end_short {p : List Pt} {j : Nat} (h : l.length ≤ j) : endS 3 p (l.drop j) = .error 2 := by unfold endS; rw [if_pos rfl, List.drop_eq_nil_of_le h]
theorem end_bad {p : List Pt} {j : Nat} (h : j < l.length) (hb : l[j] ≠ 15) : endS 3 p (l.drop j) = .error 3 := by
  unfold endS
  rw [if_pos rfl, List.drop_eq_getElem_cons h]
  dsimp only
  rw [if_neg hb]
theorem end_go {p : List Pt} {j : Nat} (h : j < l.length) (hb : l[j] = 15) : endS 3 p (l.drop j) = .ok (p, l.drop (j + 1)) := by
  unfold endS
  rw [if_pos rfl, List.drop_eq_getElem_cons h]
  dsimp only
  rw [if_pos hb]
end
theorem preR_err {rows : List (List Pt)} {fu : Nat} {kind : Int} {a : Pt} {l : List Int} {e : Int} (hf : 0 < fu) (h : pathS kind a l = .error e) : preR rows (decG fu kind a l) = .error e := by
  obtain ⟨fu', rfl⟩ : ∃ f, fu = f + 1 := ⟨fu - 1, by omega⟩
  rw [decG_err h]; rfl

theorem kept2 {w w' : World} {base s n B : Nat} {e : TypeId} {v v2 : Value} {xs : List Value} (h : w.ownsRow base e s v n xs) (hg : w.grownBy w' v2.ownBlock) (hlt : ∀ k, v.ownBlock = some k → k < B) (hge : ∀ k, v2.ownBlock = some k → B ≤ k) : w'.ownsRow base e s v n xs := by
  refine h.kept hg ?_
  cases hv : v.ownBlock with
  | none => exact .inl rfl
  | some k => exact .inr fun e => by have := hlt k hv; have := hge k e.symm; omega

end Go.Proofs.YtjalimkajcjapaaDoor
