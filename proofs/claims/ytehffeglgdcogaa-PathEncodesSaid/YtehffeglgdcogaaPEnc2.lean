/-
  path.Encode: points, and what may not be; whole.
-/
import Derived.Test.YtehffeglgdcogaaChecked
import Derived.Test.YtehffeglgdcogaaPEnc
namespace Go.Proofs.Ytehffeglgdcogaa
open Go.RowKit B

set_option maxRecDepth 100000 in
set_option maxHeartbeats 2000000 in
theorem encode_err (kind : Int) (a : Value) (A : List PRow) (S S' : Nat → Prop) (w : World) (ha : Rd w S 1 a A.length (A.map PRow.v)) (hA : ∀ r ∈ A, r.rd w S') (hp : pright kind A ≠ 0) {R : Ending → World → Prop}
    (hR : ∀ w', Grow w w' → R (.returned (.tuple #[.slice none 0 0, .int .i64 (pright kind A)])) w') :
    Calls Try.prog 38 #[.int .i64 kind, a] w R := by
  have HR := Lib.hid hR
  clear hR
  have HA0 := Lib.hid ha
  have HA := Lib.hid hA
  have PR := Lib.hid fun (R : Ending → World → Prop) hR => pathRight_any kind a A S S' w ha hA (R := R) hR
  clear ha hA
  obtain ⟨n, hn⟩ : ∃ n, pright kind A = n := ⟨_, rfl⟩
  rw [hn] at hp HR PR
  have t1 : (n != 0) = true := by rw [bne_iff_ne]; exact hp
  clear hn hp
  go_enter Try.func38, Try.ntmps38
  go_wp2_with fail
  refine PR.out _ ?_
  intro w1 hg1
  go_wp2
  exact HR.out _ hg1

theorem pright_ok {kind : Int} {A : List PRow} (hp : pright kind A = 0) : (1 ≤ kind ∧ kind ≤ 3) ∧ A.length ≠ 0 ∧ (kind = 1 → A.length = 1) ∧ ∀ r ∈ A, kind ≤ (r.l.length : Int) ∧ ∀ x ∈ r.l, Near x := by
  unfold pright at hp
  split at hp
  · omega
  · rename_i h0
    split at hp
    · omega
    · rename_i h1
      split at hp
      · omega
      · rename_i h2
        split at hp
        · omega
        · rename_i h3
          refine ⟨by omega, fun h => h1 (.inl h), fun h => ?_, fun r hr => ⟨Int.not_lt.1 fun h => h2 ⟨r, hr, h⟩, fun x hx => ?_⟩⟩
          · have a1 : ¬ A.length = 0 := fun h => h1 (.inl h)
            have a2 : ¬ 1 < A.length := fun h' => h1 (.inr ⟨h, h'⟩)
            omega
          · have h4 : x.off = false := by
              cases ho : x.off with
              | false => rfl
              | true => exact absurd (List.any_eq_true.2 ⟨r, hr, List.any_eq_true.2 ⟨x, hx, ho⟩⟩) h3
            unfold Pt.off at h4
            rw [Bool.or_eq_false_iff, Bool.not_eq_false', Bool.not_eq_false'] at h4
            exact ⟨inm_iff.1 h4.1, inm_iff.1 h4.2⟩

set_option maxRecDepth 100000 in
set_option maxHeartbeats 2000000 in
theorem encode_one (l : List Pt) (a v : Value) (S S' : Nat → Prop) (w : World) (ha : Rd w S 1 a 1 [v]) (hA : Rd w S' 2 v l.length (Pts l)) (hpr : pright 1 [⟨v, l⟩] = 0) (hlen : l.length ≤ 1000) {R : Ending → World → Prop}
    (hR : ∀ r w', w'.ownsRow w.heap.size 78 1 r (((l.length : Int) * 8 + 1) :: putPts l ⟨0, 0⟩).length (U32 (((l.length : Int) * 8 + 1) :: putPts l ⟨0, 0⟩)) → Grow w w' → R (.returned (.tuple #[r, .int .i64 0])) w') :
    Calls Try.prog 38 #[.int .i64 1, a] w R := by
  have HR := Lib.hid hR
  clear hR
  have HN := Lib.hid ((pright_ok hpr).2.2.2 _ (List.mem_singleton.2 rfl)).2
  have HA := Lib.hid (ha.lt (by decide))
  have HV := Lib.hid (hA.lt (by decide))
  have HPR := Lib.hid hpr
  have HLEN := Lib.hid hlen
  clear hpr hlen
  obtain ⟨_, A, c, rfl, h1, h2, -, h4⟩ := ha
  unfold maxLen at h2
  obtain ⟨b, o, rfl, -, hc⟩ := h4 (by omega)
  have c0 := hc 0 v rfl
  have C0 : Hid (∀ W, Grow w W → W.cell? ⟨b, o, none⟩ = some v) := fun W hW => by
    have := (hW.cell (p := ⟨b, o + 0, none⟩) (World.block_lt_of_cell? w _ c0)).trans c0
    exact this
  clear hc h4 c0
  obtain ⟨_, V, cv, rfl, x1, x2, -, -⟩ := hA
  unfold maxLen at x2
  go_enter Try.func38, Try.ntmps38
  go_wp2_with fail
  refine pathRight_any 1 _ [⟨.slice V l.length cv, l⟩] _ _ w HA.out (fun r hr => by rw [List.mem_singleton.1 hr]; exact HV.out) ?_
  intro w1 hg1
  rw [HPR.out]
  have G1 := Lib.hid hg1
  clear hg1
  have BX := Lib.hid (BoxH.laid #[.slice none 0 0, .int .i64 0, .int .i64 0] 94 (Grow.refl w1))
  have d0 := C0.out _ (G1.out.al (.cells #[.slice none 0 0, .int .i64 0, .int .i64 0] 94))
  go_wp2_with fail
  refine wput_any 1 l (.slice V l.length cv) w1.heap.size (.slice none 0 0) [] ⟨0, 0⟩ w1.heap.size w1 _ BX.out (World.ownsRow_nil _ _ _ _) (by simp [Value.ownBlock]) ⟨Nat.le_refl _, by rw [World.size_alloc]; omega⟩ (HV.out.gr (by decide) G1.out |>.up G1.out.size) (by decide) HLEN.out (by simp) HN.out ⟨⟨by decide, by decide⟩, by decide, by decide⟩ ?_
  intro lv' w2 hB2 hO2 hne2 hg2
  have y0 := hB2.cell 0
  have O2 := Lib.hid hO2
  have B2 := Lib.hid hB2
  clear hB2 hO2 d0
  go_wp2
  refine HR.out lv' w2 (own_base (own_eq O2.out ?_ ?_) G1.out.size) (G1.out.tr hg2)
  · rw [List.nil_append]; rfl
  · rw [List.nil_append]; rfl

/-- path.Encode, of paths that may be -/
theorem encodeOk_any (kind : Int) (a : Value) (A : List PRow) (S S' : Nat → Prop) (w : World) (ha : Rd w S 1 a A.length (A.map PRow.v)) (hA : ∀ r ∈ A, r.rd w S') (hp : pright kind A = 0) (hle : (encS kind (A.map PRow.l)).length ≤ 1000) {R : Ending → World → Prop}
    (hR : ∀ v w', w'.ownsRow w.heap.size 78 1 v (encS kind (A.map PRow.l)).length (U32 (encS kind (A.map PRow.l))) → Grow w w' → R (.returned (.tuple #[v, .int .i64 0])) w') :
    Calls Try.prog 38 #[.int .i64 kind, a] w R := by
  obtain ⟨h1, h2, h3, h4⟩ := pright_ok hp
  cases A with
  | nil => exact absurd rfl h2
  | cons p ps =>
    by_cases hk : kind = 1
    · subst hk
      obtain rfl : ps = [] := by
        have := h3 rfl
        cases ps with
        | nil => rfl
        | cons q qs => simp at this
      obtain ⟨v, l⟩ := p
      simp only [List.map_cons, List.map_nil, encS, if_pos] at hle hR
      refine encode_one l a v S S' w ha (hA _ (List.mem_singleton.2 rfl)) hp ?_ hR
      rw [List.length_cons, putPts_len] at hle
      omega
    · simp only [List.map_cons, encS, if_neg hk] at hle hR
      exact encode_any kind a (p :: ps) S S' w (by omega) ha hA hp hle hR
end Go.Proofs.Ytehffeglgdcogaa
