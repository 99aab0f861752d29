/-
  Overzooming, in plain Lean: what is left lies in the window, and may be a feature's.
-/
import Derived.Test.YtfdjdfobhkmlpaaChecked
import Derived.Test.YtfdjdfobhkmlpaaOvJ
import Derived.Test.YtfdjdfobhkmlpaaRWP
namespace Go.Proofs.Ytfdjdfobhkmlpaa
open Go.RowKit Go.Lib B

theorem round_ge {f : Fr} (h : f.right = true) {lo : Int} (hl : (lo : Rat) ≤ f.val) : lo ≤ f.round := by
  rw [← Int.not_lt]
  intro hn
  have := (round_iff h (lo - 1)).2 (by omega)
  have e : ((lo - 1 : Int) : Rat) = (lo : Rat) - 1 := by push_cast; rfl
  rw [e] at this
  grind
theorem round_le {f : Fr} (h : f.right = true) {hi : Int} (hl : f.val ≤ (hi : Rat)) : f.round ≤ hi := by
  refine (round_iff h hi).1 ?_
  grind
theorem round_in {s : Spot} {lo hi : Int} (h : s.rt) (hw : InW lo hi s.pq) : s.round.inside lo hi = true := by
  obtain ⟨h1, h2, h3, h4⟩ := hw
  have a1 := round_ge h.1 h1
  have a2 := round_le h.1 h2
  have a3 := round_ge h.2 h3
  have a4 := round_le h.2 h4
  unfold Pt.inside Spot.round
  dsimp only
  rw [decide_eq_true a1, decide_eq_true a2, decide_eq_true a3, decide_eq_true a4]
  rfl
theorem simple_mem {l : List Pt} {c : Bool} : ∀ p ∈ simple l c, p ∈ l := by
  intro p hp
  unfold simple at hp
  split at hp
  · have := List.mem_of_mem_take hp
    rw [compact_dd] at this
    exact ddPt_mem p this
  · rw [compact_dd] at hp
    exact ddPt_mem p hp
theorem line_in {l : List Pt} {lo hi : Int} : ∀ m ∈ linesN (clipR l lo hi), (∀ p ∈ m, p.inside lo hi = true) ∧ 2 ≤ m.length := by
  intro m hm
  unfold linesN at hm
  obtain ⟨h1, h2⟩ := List.mem_filter.1 hm
  refine ⟨fun p hp => ?_, by simpa using h2⟩
  obtain ⟨part, hpart, rfl⟩ := List.mem_map.1 h1
  have := simple_mem p hp
  obtain ⟨s, hs, rfl⟩ := List.mem_map.1 this
  by_cases he : lineE l lo hi = 0
  · obtain ⟨a, b⟩ := whole_in he part hpart s hs
    exact round_in a b
  · unfold clipR at hpart
    rw [if_neg he] at hpart
    simp at hpart
theorem ringR_in {l : List Pt} {lo hi : Int} : ∀ s ∈ ringR l lo hi, s.rt ∧ InW lo hi s.pq := by
  intro s hs
  unfold ringR at hs
  split at hs
  · rename_i he
    obtain ⟨e1, e2⟩ := ring_law he
    refine ⟨e2 s hs, ?_⟩
    have : s.pq ∈ clip25Q l lo hi := by rw [← e1]; exact List.mem_map_of_mem hs
    exact cring_in _ this
  · simp at hs
theorem ring_in {z : Zm} {e : Int} {p : List Pt} : ∀ q ∈ ringL z e p, q.inside (-z.b) (e + z.b) = true := by
  intro q hq
  have := simple_mem q hq
  obtain ⟨s, hs, rfl⟩ := List.mem_map.1 this
  obtain ⟨a, b⟩ := ringR_in s hs
  exact round_in a b
theorem group_in {z : Zm} {e : Int} {A : List (List Pt)} {g : List Nat} : ∀ m ∈ groupL z e A g, ∃ p, m = ringL z e p ∧ ringOk z e p = true := by
  intro m hm
  cases g with
  | nil => simp [groupL] at hm
  | cons i g =>
    unfold groupL at hm
    dsimp only at hm
    split at hm
    · rename_i h1
      rcases List.mem_cons.1 hm with rfl | hm
      · exact ⟨_, rfl, h1⟩
      · obtain ⟨p, hp, rfl⟩ := List.mem_map.1 hm
        exact ⟨p, rfl, (List.mem_filter.1 hp).2⟩
    · simp at hm
/-- P28.2 -/
theorem feat_in {ty : Int} {z : Zm} {e : Int} {A : List (List Pt)} (h1 : 1 ≤ ty) (h3 : ty ≤ 3) : ∀ m ∈ featL ty z e A, (∀ p ∈ m, p.inside (-z.b) (e + z.b) = true) ∧ ty ≤ (m.length : Int) := by
  intro m hm
  unfold featL at hm
  split at hm
  · subst ty
    unfold ptL at hm
    split at hm
    · simp at hm
    · rename_i hne
      rw [List.mem_singleton.1 hm]
      refine ⟨fun p hp => ?_, by have := List.length_pos_iff.2 hne; omega⟩
      unfold ptsIn at hp
      exact (List.mem_filter.1 hp).2
  · split at hm
    · subst ty
      obtain ⟨l, _, hl⟩ := List.mem_flatMap.1 hm
      obtain ⟨a, b⟩ := line_in m hl
      exact ⟨a, by omega⟩
    · obtain ⟨g, _, hg⟩ := List.mem_flatMap.1 hm
      obtain ⟨p, rfl, hok⟩ := group_in m hg
      refine ⟨ring_in, ?_⟩
      unfold ringOk at hok
      simp only [Bool.and_eq_true, decide_eq_true_eq] at hok
      omega
theorem inside_off {z : Zm} {e : Int} (hz : zright z e = true) {p : Pt} (h : p.inside (-z.b) (e + z.b) = true) : p.off = false := by
  obtain ⟨h1, h2, -, -, h5, h6, -⟩ := zright_iff hz
  simp only [Pt.inside, Bool.and_eq_true, decide_eq_true_eq] at h
  obtain ⟨⟨⟨a, b⟩, c⟩, d⟩ := h
  unfold Pt.off inm
  rw [decide_eq_true (show -1048576 ≤ p.x by omega), decide_eq_true (show p.x ≤ 1048576 by omega), decide_eq_true (show -1048576 ≤ p.y by omega), decide_eq_true (show p.y ≤ 1048576 by omega)]
  rfl
/-- what is left may be a feature's -/
theorem feat_right {ty : Int} {z : Zm} {e : Int} {A : List (List Pt)} {rows : List PRow} (hz : zright z e = true) (h1 : 1 ≤ ty) (h3 : ty ≤ 3) (hm : rows.map PRow.l = featL ty z e A) (hne : featL ty z e A ≠ []) : pright ty rows = 0 := by
  have hin := feat_in (z := z) (e := e) (A := A) h1 h3
  have hl : 0 < rows.length := by
    rw [← List.length_map (f := PRow.l), hm]
    exact List.length_pos_iff.2 hne
  have hl1 : ty = 1 → rows.length ≤ 1 := by
    intro ht
    rw [← List.length_map (f := PRow.l), hm]
    unfold featL ptL
    rw [if_pos ht]
    split <;> simp
  have hrow : ∀ r ∈ rows, (∀ p ∈ r.l, p.inside (-z.b) (e + z.b) = true) ∧ ty ≤ (r.l.length : Int) := fun r hr => hin r.l (by rw [← hm]; exact List.mem_map_of_mem hr)
  unfold pright
  rw [if_neg (by omega), if_neg (by rintro (h | ⟨h, h2⟩); · omega
                                    · have := hl1 h; omega), if_neg, if_neg]
  · unfold offsR offs
    simp only [List.any_eq_true, not_exists, not_and]
    intro r hr p hp
    rw [inside_off hz ((hrow r hr).1 p hp)]
    decide
  · rintro ⟨r, hr, hlt⟩
    have := (hrow r hr).2
    omega
end Go.Proofs.Ytfdjdfobhkmlpaa
