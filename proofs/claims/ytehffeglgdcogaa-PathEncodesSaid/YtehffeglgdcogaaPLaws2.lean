/-
  The laws of chapter 9: PathEncodes.
-/
import Derived.Test.YtehffeglgdcogaaChecked
import Derived.Test.YtehffeglgdcogaaPLaws
namespace Go.Proofs.Ytehffeglgdcogaa
open Go.RowKit B

def totL : List PRow → Nat
  | [] => 0
  | r :: A => 1 + r.l.length + totL A
theorem totL_app : ∀ (A B : List PRow), totL (A ++ B) = totL A + totL B
  | [], B => by simp [totL]
  | r :: A, B => by simp [totL, totL_app A B]; omega
theorem totL_mem : ∀ {A : List PRow} {r : PRow}, r ∈ A → r.l.length ≤ totL A
  | a :: A, r, h => by
    rcases List.mem_cons.1 h with rfl | h
    · simp only [totL]; omega
    · have := totL_mem h
      simp only [totL]; omega
theorem encG_tot (kind : Int) : ∀ (A : List PRow) (a : Pt), (encG kind a (A.map PRow.l)).length ≤ 3 * totL A
  | [], a => by simp [encG]
  | r :: A, a => by
    have := encG_tot kind A (lastPt a r.l)
    rw [List.map_cons, encG_cons, List.length_append]
    have h : (encP kind a r.l).length ≤ 3 + 2 * r.l.length := by
      unfold encP
      simp only [List.length_append, List.length_cons, putPts_len, List.length_take, List.length_drop]
      split <;> simp <;> omega
    simp only [totL]
    omega
theorem encS_tot (kind : Int) (A : List PRow) : (encS kind (A.map PRow.l)).length ≤ 3 * totL A := by
  cases A with
  | nil => simp [encS]
  | cons r A =>
    by_cases hk : kind = 1
    · simp only [List.map_cons, encS, if_pos hk, List.length_cons, putPts_len, totL]
      omega
    · have := encG_tot kind (r :: A) ⟨0, 0⟩
      simp only [List.map_cons, encS, if_neg hk] at this ⊢
      exact this
def U32b (x : Int) : Prop := 0 ≤ x ∧ x ≤ 4294967295
theorem putPts_bd : ∀ (p : List Pt) (a : Pt), Near a → (∀ x ∈ p, Near x) → ∀ x ∈ putPts p a, U32b x
  | [], _, _, _, x, h => by simp [putPts] at h
  | q :: p, a, ha, hp, x, h => by
    have hq := hp q (by simp)
    simp only [putPts, List.mem_cons] at h
    rcases h with rfl | rfl | h
    · have := zig_near hq.1 ha.1; unfold U32b; omega
    · have := zig_near hq.2 ha.2; unfold U32b; omega
    · exact putPts_bd p q hq (fun y hy => hp y (by simp [hy])) x h
theorem encG_bd (kind : Int) : ∀ (ps : List (List Pt)) (a : Pt), Near a → (∀ p ∈ ps, p.length ≤ 1000 ∧ ∀ x ∈ p, Near x) → ∀ x ∈ encG kind a ps, U32b x
  | [], _, _, _, x, h => by simp [encG] at h
  | p :: ps, a, ha, hp, x, h => by
    have h1 := hp p (by simp)
    rw [encG_cons, List.mem_append] at h
    rcases h with h | h
    · unfold encP at h
      rw [List.mem_append, List.mem_append, List.mem_cons, List.mem_cons] at h
      rcases h with (((rfl | h) | (rfl | h)) | h)
      · unfold U32b; omega
      · exact putPts_bd _ a ha (fun y hy => h1.2 y (List.mem_of_mem_take hy)) x h
      · unfold U32b; omega
      · exact putPts_bd _ _ (lastPt_near ha (fun y hy => h1.2 y (List.mem_of_mem_take hy))) (fun y hy => h1.2 y (List.mem_of_mem_drop hy)) x h
      · split at h
        · simp at h; unfold U32b; omega
        · simp at h
    · exact encG_bd kind ps (lastPt a p) (lastPt_near ha h1.2) (fun q hq => hp q (by simp [hq])) x h
theorem encS_bd (kind : Int) (ps : List (List Pt)) (hp : ∀ p ∈ ps, p.length ≤ 1000 ∧ ∀ x ∈ p, Near x) : ∀ x ∈ encS kind ps, U32b x := by
  intro x h
  cases ps with
  | nil => simp [encS] at h
  | cons p ps =>
    have h0 : Near ⟨0, 0⟩ := ⟨⟨by decide, by decide⟩, by decide, by decide⟩
    by_cases hk : kind = 1
    · simp only [encS, if_pos hk, List.mem_cons] at h
      have h1 := hp p (by simp)
      rcases h with rfl | h
      · unfold U32b; omega
      · exact putPts_bd _ _ h0 h1.2 x h
    · simp only [encS, if_neg hk] at h
      exact encG_bd kind (p :: ps) _ h0 hp x h

set_option maxRecDepth 100000 in
set_option maxHeartbeats 2000000 in
theorem much2_any (a : Value) (A : List PRow) (S S' : Nat → Prop) (w : World) (ha : Rd w S 1 a A.length (A.map PRow.v)) (hA : ∀ r ∈ A, r.rd w S') (hBig : ∀ r ∈ A, r.l.length ≤ 140737488355328) {R : Ending → World → Prop}
    (hT : ∀ w', Grow w w' → R (.returned (.bool true)) w') (hF : totL A ≤ 300 → ∀ w', Grow w w' → R (.returned (.bool false)) w') :
    Calls Try.prog 26 #[a] w R := by
  have HT := Lib.hid hT
  have HF := Lib.hid hF
  have HBG := Lib.hid hBig
  clear hT hF hBig
  have HA0 := Lib.hid ha
  obtain ⟨_, A0, c, rfl, h1, h2, h3, h4⟩ := ha
  have HA := Lib.hid hA
  unfold maxLen at h2
  clear hA
  go_enter Try.func26, Try.ntmps26
  go_wp2
  go_loopw [4, 3] (fun i s wr => ∃ (k n : Nat), k ≤ A.length ∧ i = .int .i64 k ∧ s = .int .i64 n ∧ n ≤ 300 ∧ Hid (n = totL (A.take k)) ∧ Hid (Grow w wr)) (fun i _ _ => A.length - (intOf i).toNat)
  case atStart => exact ⟨0, 0, Nat.zero_le _, rfl, rfl, by omega, rfl, Grow.refl _⟩
  case round =>
    obtain ⟨k, n, hk, rfl, rfl, hn, hnt, hg⟩ := hrel
    by_cases hlt : k < A.length
    · by_cases h40 : k < 40
      · obtain ⟨b1, o1, rfl, -, -⟩ := h4 (by omega)
        have c1 : wr.cell? ⟨b1, o1 + k, none⟩ = some (A[k]'hlt).v := by
          have := rd_cell hg.out HA0.out rfl (i := k) (by simpa using hlt)
          rw [List.getElem_map] at this
          exact this
        have r1 := HA.out (A[k]'hlt) (List.getElem_mem hlt)
        have hbg := HBG.out (A[k]'hlt) (List.getElem_mem hlt)
        have TT : Hid (totL (A.take (k + 1)) = totL (A.take k) + (1 + (A[k]'hlt).l.length)) := by
          show _ = _
          rw [List.take_succ_eq_append_getElem hlt, totL_app]; simp [totL]
        clear h3 h4
        generalize A[k]'hlt = ra at *
        obtain ⟨v1, l1⟩ := ra
        unfold PRow.rd at r1
        dsimp only at *
        obtain ⟨_, X, cx, rfl, x1, x2, -, -⟩ := r1
        unfold maxLen at x2
        have ew : IntKind.i64.wrap ((n : Int) + 1) = (n : Int) + 1 := IntWalk.i64_in _ (by omega)
        by_cases hb : 300 < n + 1 + l1.length
        · have t3 : decide (300 < (n : Int) + 1 + (l1.length : Int)) = true := decide_eq_true (by omega)
          go_wp2
          exact HT.out _ hg.out
        · have t3 : decide (300 < (n : Int) + 1 + (l1.length : Int)) = false := decide_eq_false (by omega)
          go_wp2
          go_roundw
          case rel => exact ⟨k + 1, n + 1 + l1.length, by omega, by go_num, by go_num, by omega, (by have := TT.out; have := hnt.out; omega : n + 1 + l1.length = totL (A.take (k + 1))), hg.out⟩
          case measure => simp [intOf]; omega
      · have t40 : decide ((k : Int) < 40) = false := by simp; omega
        have t41 : decide (40 < (A.length : Int)) = true := decide_eq_true (by omega)
        go_wp2
        exact HT.out _ hg.out
    · obtain rfl : k = A.length := by omega
      rw [List.take_length] at hnt
      have HF2 := Lib.hid (HF.out (by rw [← hnt.out]; exact hn))
      by_cases h40 : 40 < A.length
      · have t41 : decide (40 < (A.length : Int)) = true := decide_eq_true (by omega)
        go_wp2
        exact HT.out _ hg.out
      · have t41 : decide (40 < (A.length : Int)) = false := decide_eq_false (by omega)
        go_wp2
        exact HF2.out _ hg.out

set_option maxRecDepth 100000 in
set_option maxHeartbeats 4000000 in
theorem pathEncodes_walk (kind : Int) (A : List PRow) (a : Value) (S S' : Nat → Prop) (w : World) (ha : Rd w S 1 a A.length (A.map PRow.v)) (hA : ∀ r ∈ A, r.rd w S') (hBig : ∀ r ∈ A, r.l.length ≤ 140737488355328) {R : Ending → World → Prop} (hR : ∀ w', Grow w w' → R (.returned (.bool true)) w') :
    Calls Try.prog 8 #[.int .i64 kind, a] w R := by
  have HR := Lib.hid hR
  have HA0 := Lib.hid ha
  have HA := Lib.hid hA
  have HBG := Lib.hid hBig
  clear hR ha hA hBig
  go_enter Try.func8, Try.ntmps8
  go_wp2_with fail
  refine much2_any a A _ _ w HA0.out HA.out HBG.out ?_ ?_
  · intro w1 hg1
    have G1 := Lib.hid hg1
    clear hg1
    go_wp2_with fail
    refine live9_any _ ?_
    intro w9 hg9
    go_wp2
    exact HR.out _ (G1.out.tr hg9)
  · intro htot w1 hg1
    have G1 := Lib.hid hg1
    have TOT := Lib.hid htot
    clear hg1 htot
    by_cases hp : pright kind A = 0
    · have HP := Lib.hid hp
      obtain ⟨hk, hne, hone, hall⟩ := pright_ok hp
      have LEN : Hid ((encS kind (A.map PRow.l)).length ≤ 1000) := by show _ ≤ _; have := encS_tot kind A; have := TOT.out; omega
      have HPS : ∀ p ∈ A.map PRow.l, p.length ≤ 1000 ∧ ∀ x ∈ p, Near x := by
        intro p hp
        obtain ⟨r, hr, rfl⟩ := List.mem_map.1 hp
        exact ⟨by have := totL_mem hr; have := TOT.out; omega, (hall r hr).2⟩
      have BD := Lib.hid (encS_bd kind (A.map PRow.l) HPS)
      have DE : Hid (decS kind (encS kind (A.map PRow.l)) = .ok (A.map PRow.l)) := by
        refine enc_dec hk (fun e => hne (by simpa using e)) (fun h => by rw [List.length_map]; exact hone h) ?_
        intro p hp
        have h1 := HPS p hp
        obtain ⟨r, hr, rfl⟩ := List.mem_map.1 hp
        exact ⟨(hall r hr).1, h1.1, h1.2⟩
      obtain ⟨us, hus⟩ : ∃ us, encS kind (A.map PRow.l) = us := ⟨_, rfl⟩
      rw [hus] at LEN BD DE
      have EU := Lib.hid hus
      clear hp hk hne hone hall HPS hus
      go_wp2_with fail
      refine encodeOk_any kind a A _ _ w1 (HA0.out.gr2 (by decide) G1.out) (fun r hr => (HA.out r hr).gr2 (by decide) G1.out) HP.out (by rw [EU.out]; exact LEN.out) ?_
      rw [EU.out]
      intro v2 w2 hO2 hg2
      have G2 := Lib.hid (G1.out.tr hg2)
      obtain ⟨X2, cc2, hv2⟩ := own_slice hO2
      subst hv2
      have O2 := Lib.hid hO2
      clear hg2 hO2
      go_wp2_with fail
      refine pathRight_any kind a A _ _ w2 (HA0.out.gr2 (by decide) G2.out) (fun r hr => (HA.out r hr).gr2 (by decide) G2.out) ?_
      intro w3 hg3
      rw [HP.out]
      have G3 := Lib.hid (G2.out.tr hg3)
      have O3 := Lib.hid (own_grow O2.out hg3)
      clear hg3
      go_wp2_with fail
      refine code9_any 0 _ ?_
      go_wp2_with fail
      refine rright9_any kind a A _ _ w3 (HA0.out.gr2 (by decide) G3.out) (fun r hr => (HA.out r hr).gr2 (by decide) G3.out) ?_
      intro w4 hg4
      rw [HP.out]
      have G4 := Lib.hid (G3.out.tr hg4)
      have O4 := Lib.hid (own_grow O3.out hg4)
      clear hg4
      go_wp2_with fail
      refine code9_any 0 _ ?_
      go_wp2_with fail
      refine rright9_any kind a A _ _ w4 (HA0.out.gr2 (by decide) G4.out) (fun r hr => (HA.out r hr).gr2 (by decide) G4.out) ?_
      intro w5 hg5
      rw [HP.out]
      have G5 := Lib.hid (G4.out.tr hg5)
      have O5 := Lib.hid (own_grow O4.out hg5)
      clear hg5
      go_wp2_with fail
      refine rright9_any kind a A _ _ w5 (HA0.out.gr2 (by decide) G5.out) (fun r hr => (HA.out r hr).gr2 (by decide) G5.out) ?_
      intro w6 hg6
      rw [HP.out]
      have G6 := Lib.hid (G5.out.tr hg6)
      have O6 := Lib.hid (own_grow O5.out hg6)
      clear hg6
      go_wp2_with fail
      refine decode_any kind us _ _ w6 (Rd.own O6.out) BD.out LEN.out (decH_ok DE.out ?_)
      intro rows hr v7 w7 hO7 hR7 hg7
      have G7 := Lib.hid (G6.out.tr hg7)
      have O7 := Lib.hid (own_grow O6.out hg7)
      have RO7 := Lib.hid hO7
      have RR7 := Lib.hid hR7
      have ER := Lib.hid hr
      clear hg7 hO7 hR7 hr
      go_wp2_with fail
      refine rencode_any kind a A _ _ w7 (HA0.out.gr2 (by decide) G7.out) (fun r hr => (HA.out r hr).gr2 (by decide) G7.out) HP.out (by rw [EU.out]; exact LEN.out) ?_
      rw [EU.out]
      intro v8 w8 hO8 hg8
      have G8 := Lib.hid (G7.out.tr hg8)
      have O8 := Lib.hid (own_grow O7.out hg8)
      have RO8 := Lib.hid (own_grow RO7.out hg8)
      have RR8 : Hid (∀ r ∈ rows, r.rd w8 (fun b => w6.heap.size ≤ b)) := fun r hr => (RR7.out r hr : Rd _ _ _ _ _ _).gr2 (by decide) hg8
      have E8 := Lib.hid hO8
      clear hg8 hO8
      go_wp2_with fail
      refine sameInts_any _ v8 us us _ _ w8 (Rd.own O8.out) (Rd.own E8.out) ?_
      intro w9 hg9
      rw [decide_eq_true rfl]
      have G9 := Lib.hid (G8.out.tr hg9)
      have RO9 := Lib.hid (own_grow RO8.out hg9)
      have RR9 : Hid (∀ r ∈ rows, r.rd w9 (fun b => w6.heap.size ≤ b)) := fun r hr => (RR8.out r hr : Rd _ _ _ _ _ _).gr2 (by decide) hg9
      clear hg9
      go_wp2_with fail
      refine code9_any 0 _ ?_
      go_wp2_with fail
      refine rsame9_any a v7 A rows _ _ _ _ w9 (HA0.out.gr2 (by decide) G9.out) (fun r hr => (HA.out r hr).gr2 (by decide) G9.out) (Rd.own RO9.out) RR9.out ?_
      intro w10 hg10
      rw [decide_eq_true ER.out.symm]
      have G10 := Lib.hid (G9.out.tr hg10)
      clear hg10
      go_wp2_with fail
      refine live9_any _ ?_
      intro w9 hg9
      go_wp2
      exact HR.out _ (G10.out.tr hg9)
    · obtain ⟨n, hn⟩ : ∃ n, pright kind A = n := ⟨_, rfl⟩
      have HP := Lib.hid hp
      have HN := Lib.hid hn
      have t1 : (n != 0) = true := by rw [bne_iff_ne, ← hn]; exact hp
      clear hp hn
      go_wp2_with fail
      refine encode_err kind a A _ _ w1 (HA0.out.gr2 (by decide) G1.out) (fun r hr => (HA.out r hr).gr2 (by decide) G1.out) HP.out ?_
      intro w2 hg2
      rw [HN.out]
      have G2 := Lib.hid (G1.out.tr hg2)
      clear hg2
      go_wp2_with fail
      refine pathRight_any kind a A _ _ w2 (HA0.out.gr2 (by decide) G2.out) (fun r hr => (HA.out r hr).gr2 (by decide) G2.out) ?_
      intro w3 hg3
      rw [HN.out]
      have G3 := Lib.hid (G2.out.tr hg3)
      clear hg3
      go_wp2_with fail
      refine code9_any n _ ?_
      go_wp2_with fail
      refine rright9_any kind a A _ _ w3 (HA0.out.gr2 (by decide) G3.out) (fun r hr => (HA.out r hr).gr2 (by decide) G3.out) ?_
      intro w4 hg4
      rw [HN.out]
      have G4 := Lib.hid (G3.out.tr hg4)
      clear hg4
      go_wp2_with fail
      refine code9_any n _ ?_
      go_wp2_with fail
      refine rright9_any kind a A _ _ w4 (HA0.out.gr2 (by decide) G4.out) (fun r hr => (HA.out r hr).gr2 (by decide) G4.out) ?_
      intro w5 hg5
      rw [HN.out]
      have G5 := Lib.hid (G4.out.tr hg5)
      clear hg5
      go_wp2_with fail
      refine rright9_any kind a A _ _ w5 (HA0.out.gr2 (by decide) G5.out) (fun r hr => (HA.out r hr).gr2 (by decide) G5.out) ?_
      intro w6 hg6
      rw [HN.out]
      have G6 := Lib.hid (G5.out.tr hg6)
      clear hg6
      go_wp2_with fail
      refine live9_any _ ?_
      intro w9 hg9
      go_wp2
      exact HR.out _ (G6.out.tr hg9)
end Go.Proofs.Ytehffeglgdcogaa
