/-
  The laws of chapter 9: PathEncodes.
-/
import Derived.Test.YtjalimkajcjapaaDoorChecked
import Derived.Test.YtjalimkajcjapaaDoorPLaws
namespace Go.Proofs.YtjalimkajcjapaaDoor
open Go.RowKit B

def totL : List PRow → Nat
  | [] => 0
  | r :: A => 1 + r.l.length + totL A
theorem totL_app : ∀ (A B : List PRow), totL (A ++ B) = totL A + totL B
  | [], B => by simp [totL]
  | r :: A, B => by simp [totL, totL_app A B]; omega
theorem totL_mem : ∀ {A : List PRow} {r : PRow}, r ∈ A → r.l.length ≤ totL A
  | a :: A, r, h => by
    rcases List.mem_cons.1 h with rfl | h
    · simp only [totL]; omega
    · have := totL_mem h
      simp only [totL]; omega
theorem encG_tot (kind : Int) : ∀ (A : List PRow) (a : Pt), (encG kind a (A.map PRow.l)).length ≤ 3 * totL A
  | [], a => by simp [encG]
  | r :: A, a => by
    have := encG_tot kind A (lastPt a r.l)
    rw [List.map_cons, encG_cons, List.length_append]
    have h : (encP kind a r.l).length ≤ 3 + 2 * r.l.length := by
      unfold encP
      simp only [List.length_append, List.length_cons, putPts_len, List.length_take, List.length_drop]
      split <;> simp <;> omega
    simp only [totL]
    omega
theorem encS_tot (kind : Int) (A : List PRow) : (encS kind (A.map PRow.l)).length ≤ 3 * totL A := by
  cases A with
  | nil => simp [encS]
  | cons r A =>
    by_cases hk : kind = 1
    · simp only [List.map_cons, encS, if_pos hk, List.length_cons, putPts_len, totL]
      omega
    · have := encG_tot kind (r :: A) ⟨0, 0⟩
      simp only [List.map_cons, encS, if_neg hk] at this ⊢
      exact this
def U32b (x : Int) : Prop := 0 ≤ x ∧ x ≤ 4294967295
theorem putPts_bd : ∀ (p : List Pt) (a : Pt), Near a → (∀ x ∈ p, Near x) → ∀ x ∈ putPts p a, U32b x
  | [], _, _, _, x, h => by simp [putPts] at h
  | q :: p, a, ha, hp, x, h => by
    have hq := hp q (by simp)
    simp only [putPts, List.mem_cons] at h
    rcases h with rfl | rfl | h
    · have := zig_near hq.1 ha.1; unfold U32b; omega
    · have := zig_near hq.2 ha.2; unfold U32b; omega
    · exact putPts_bd p q hq (fun y hy => hp y (by simp [hy])) x h
theorem encG_bd (kind : Int) : ∀ (ps : List (List Pt)) (a : Pt), Near a → (∀ p ∈ ps, p.length ≤ 1000 ∧ ∀ x ∈ p, Near x) → ∀ x ∈ encG kind a ps, U32b x
  | [], _, _, _, x, h => by simp [encG] at h
  | p :: ps, a, ha, hp, x, h => by
    have h1 := hp p (by simp)
    rw [encG_cons, List.mem_append] at h
    rcases h with h | h
    · unfold encP at h
      rw [List.mem_append, List.mem_append, List.mem_cons, List.mem_cons] at h
      rcases h with (((rfl | h) | (rfl | h)) | h)
      · unfold U32b; omega
      · exact putPts_bd _ a ha (fun y hy => h1.2 y (List.mem_of_mem_take hy)) x h
      · unfold U32b; omega
      · exact putPts_bd _ _ (lastPt_near ha (fun y hy => h1.2 y (List.mem_of_mem_take hy))) (fun y hy => h1.2 y (List.mem_of_mem_drop hy)) x h
      · split at h
        · simp at h; unfold U32b; omega
        · simp at h
    · exact encG_bd kind ps (lastPt a p) (lastPt_near ha h1.2) (fun q hq => hp q (by simp [hq])) x h
theorem encS_bd (kind : Int) (ps : List (List Pt)) (hp : ∀ p ∈ ps, p.length ≤ 1000 ∧ ∀ x ∈ p, Near x) : ∀ x ∈ encS kind ps, U32b x := by
  intro x h
  cases ps with
  | nil => simp [encS] at h
  | cons p ps =>
    have h0 : Near ⟨0, 0⟩ := ⟨⟨by decide, by decide⟩, by decide, by decide⟩
    by_cases hk : kind = 1
    · simp only [encS, if_pos hk, List.mem_cons] at h
      have h1 := hp p (by simp)
      rcases h with rfl | h
      · unfold U32b; omega
      · exact putPts_bd _ _ h0 h1.2 x h
    · simp only [encS, if_neg hk] at h
      exact encG_bd kind (p :: ps) _ h0 hp x h

set_option maxRecDepth 100000 in
set_option maxHeartbeats 2000000 in
theorem much2_any (a : Value) (A : List PRow) (S S' : Nat → Prop) (w : World) (ha : Rd w S 1 a A.length (A.map PRow.v)) (hA : ∀ r ∈ A, r.rd w S') (hBig : ∀ r ∈ A, r.l.length ≤ 140737488355328) {R : Ending → World → Prop}
    (hT : ∀ w', Grow w w' → R (.returned (.bool true)) w') (hF : totL A ≤ 300 → ∀ w', Grow w w' → R (.returned (.bool false)) w') :
    Calls Tryd.prog 13 #[a] w R := by
  have HT := Lib.hid hT
  have HF := Lib.hid hF
  have HBG := Lib.hid hBig
  clear hT hF hBig
  have HA0 := Lib.hid ha
  obtain ⟨_, A0, c, rfl, h1, h2, h3, h4⟩ := ha
  have HA := Lib.hid hA
  unfold maxLen at h2
  clear hA
  go_enter Tryd.func13, Tryd.ntmps13
  go_wp2
  go_loopw [4, 3] (fun i s wr => ∃ (k n : Nat), k ≤ A.length ∧ i = .int .i64 k ∧ s = .int .i64 n ∧ n ≤ 300 ∧ Hid (n = totL (A.take k)) ∧ Hid (Grow w wr)) (fun i _ _ => A.length - (intOf i).toNat)
  case atStart => exact ⟨0, 0, Nat.zero_le _, rfl, rfl, by omega, rfl, Grow.refl _⟩
  case round =>
    obtain ⟨k, n, hk, rfl, rfl, hn, hnt, hg⟩ := hrel
    by_cases hlt : k < A.length
    · by_cases h40 : k < 40
      · obtain ⟨b1, o1, rfl, -, -⟩ := h4 (by omega)
        have c1 : wr.cell? ⟨b1, o1 + k, none⟩ = some (A[k]'hlt).v := by
          have := rd_cell hg.out HA0.out rfl (i := k) (by simpa using hlt)
          rw [List.getElem_map] at this
          exact this
        have r1 := HA.out (A[k]'hlt) (List.getElem_mem hlt)
        have hbg := HBG.out (A[k]'hlt) (List.getElem_mem hlt)
        have TT : Hid (totL (A.take (k + 1)) = totL (A.take k) + (1 + (A[k]'hlt).l.length)) := by
          show _ = _
          rw [List.take_succ_eq_append_getElem hlt, totL_app]; simp [totL]
        clear h3 h4
        generalize A[k]'hlt = ra at *
        obtain ⟨v1, l1⟩ := ra
        unfold PRow.rd at r1
        dsimp only at *
        obtain ⟨_, X, cx, rfl, x1, x2, -, -⟩ := r1
        unfold maxLen at x2
        have ew : IntKind.i64.wrap ((n : Int) + 1) = (n : Int) + 1 := IntWalk.i64_in _ (by omega)
        by_cases hb : 300 < n + 1 + l1.length
        · have t3 : decide (300 < (n : Int) + 1 + (l1.length : Int)) = true := decide_eq_true (by omega)
          go_wp2
          exact HT.out _ hg.out
        · have t3 : decide (300 < (n : Int) + 1 + (l1.length : Int)) = false := decide_eq_false (by omega)
          go_wp2
          go_roundw
          case rel => exact ⟨k + 1, n + 1 + l1.length, by omega, by go_num, by go_num, by omega, (by have := TT.out; have := hnt.out; omega : n + 1 + l1.length = totL (A.take (k + 1))), hg.out⟩
          case measure => simp [intOf]; omega
      · have t40 : decide ((k : Int) < 40) = false := by simp; omega
        have t41 : decide (40 < (A.length : Int)) = true := decide_eq_true (by omega)
        go_wp2
        exact HT.out _ hg.out
    · obtain rfl : k = A.length := by omega
      rw [List.take_length] at hnt
      have HF2 := Lib.hid (HF.out (by rw [← hnt.out]; exact hn))
      by_cases h40 : 40 < A.length
      · have t41 : decide (40 < (A.length : Int)) = true := decide_eq_true (by omega)
        go_wp2
        exact HT.out _ hg.out
      · have t41 : decide (40 < (A.length : Int)) = false := decide_eq_false (by omega)
        go_wp2
        exact HF2.out _ hg.out

end Go.Proofs.YtjalimkajcjapaaDoor
