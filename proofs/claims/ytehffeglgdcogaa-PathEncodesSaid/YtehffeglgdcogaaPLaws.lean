/-
  The laws of chapter 9: PathDecodes and PathEncodes.
-/
import Derived.Test.YtehffeglgdcogaaChecked
import Derived.Test.YtehffeglgdcogaaPRef3
import Derived.Test.YtehffeglgdcogaaPEncR
import Derived.Test.YtehffeglgdcogaaPSames
namespace Go.Proofs.Ytehffeglgdcogaa
open Go.RowKit B

theorem cmdS_err {k low high : Int} {a : Pt} {l : List Int} {e : Int} (h : cmdS k low high a l = .error e) : e ≠ 0 := by
  cases l with
  | nil => simp [cmdS] at h; omega
  | cons c l =>
    simp only [cmdS] at h
    split at h
    · simp at h; omega
    · rcases ptsS_err _ _ _ _ h with h | h <;> omega
theorem pathS_err {kind : Int} {a : Pt} {l : List Int} {e : Int} (h : pathS kind a l = .error e) : e ≠ 0 := by
  unfold pathS at h
  cases h1 : cmdS 1 1 1 a l with
  | error e1 => rw [h1] at h; simp at h; subst h; exact cmdS_err h1
  | ok v =>
    obtain ⟨p, r⟩ := v
    rw [h1] at h
    dsimp only at h
    cases h2 : cmdS 2 (kind - 1) 536870912 (lastPt a p) r with
    | error e1 => rw [h2] at h; simp at h; subst h; exact cmdS_err h2
    | ok v =>
      obtain ⟨q, s⟩ := v
      rw [h2] at h
      dsimp only at h
      unfold endS at h
      split at h
      · cases s with
        | nil => simp at h; omega
        | cons c s =>
          dsimp only at h
          split at h
          · simp at h
          · simp at h; omega
      · simp at h
theorem decG_err0 {kind : Int} : ∀ (f : Nat) (a : Pt) (l : List Int) (e : Int), decG f kind a l = .error e → e ≠ 0
  | 0, a, l, e, h => by simp [decG] at h
  | f + 1, a, l, e, h => by
    simp only [decG] at h
    cases h1 : pathS kind a l with
    | error e1 => rw [h1] at h; simp at h; subst h; exact pathS_err h1
    | ok v =>
      obtain ⟨p, r⟩ := v
      rw [h1] at h
      cases r with
      | nil => simp at h
      | cons c r =>
        dsimp only at h
        cases h2 : decG f kind (lastPt a p) (c :: r) with
        | error e1 => rw [h2] at h; simp at h; subst h; exact decG_err0 f _ _ _ h2
        | ok qs => rw [h2] at h; simp at h
theorem decS_err {kind : Int} {l : List Int} {e : Int} (h : decS kind l = .error e) : e ≠ 0 := by
  unfold decS at h
  split at h
  · simp at h; omega
  · split at h
    · unfold dec1 at h
      cases h1 : cmdS 1 1 536870912 ⟨0, 0⟩ l with
      | error e1 => rw [h1] at h; simp at h; subst h; exact cmdS_err h1
      | ok v =>
        obtain ⟨p, r⟩ := v
        rw [h1] at h
        cases r with
        | nil => simp at h
        | cons c r => simp at h; omega
    · exact decG_err0 _ _ _ _ h

theorem decode_any (kind : Int) (l : List Int) (lv : Value) (S : Nat → Prop) (w : World) (hl : Rd w S 1 lv l.length (U32 l)) (hu : ∀ x ∈ l, 0 ≤ x ∧ x ≤ 4294967295) (hlen : l.length ≤ 1000) {R : Ending → World → Prop} (hR : DecH kind l w R) :
    Calls Try.prog 35 #[.int .i64 kind, lv] w R := by
  by_cases hk : 1 ≤ kind ∧ kind ≤ 3
  · by_cases h1 : kind = 1
    · subst h1; exact decode_one l lv S w hl hu hlen hR
    · exact decode_more kind l lv S w (by omega) hl hu hlen hR
  · exact decode_bad kind l lv w hk hR
theorem rdecode_any (kind : Int) (l : List Int) (lv : Value) (S : Nat → Prop) (w : World) (hl : Rd w S 1 lv l.length (U32 l)) (hu : ∀ x ∈ l, 0 ≤ x ∧ x ≤ 4294967295) (hlen : l.length ≤ 1000) {R : Ending → World → Prop} (hR : DecH kind l w R) :
    Calls Try.prog 36 #[.int .i64 kind, lv] w R := by
  by_cases hk : 1 ≤ kind ∧ kind ≤ 3
  · by_cases h1 : kind = 1
    · subst h1; exact rdecode_one l lv S w hl hu hlen hR
    · exact rdecode_more kind l lv S w (by omega) hl hu hlen hR
  · exact rdecode_bad kind l lv w hk hR
theorem decH_err {kind : Int} {l : List Int} {w : World} {R : Ending → World → Prop} {e : Int} (he : decS kind l = .error e) (h : ∀ w', Grow w w' → R (.returned (.tuple #[.slice none 0 0, .int .i64 e])) w') : DecH kind l w R :=
  ⟨fun e' he' => by rw [he] at he'; injection he' with he'; subst he'; exact h, fun rows hr => by rw [he] at hr; cases hr⟩
theorem decH_ok {kind : Int} {l : List Int} {w : World} {R : Ending → World → Prop} {ps : List (List Pt)} (he : decS kind l = .ok ps)
    (h : ∀ (rows : List PRow), rows.map PRow.l = ps → ∀ v w', w'.ownsRow w.heap.size 75 1 v rows.length (rows.map PRow.v) → (∀ r ∈ rows, r.rd w' (fun b => w.heap.size ≤ b)) → Grow w w' → R (.returned (.tuple #[v, .int .i64 0])) w') : DecH kind l w R :=
  ⟨fun e' he' => (by rw [he] at he'; cases he'), fun rows hr => (by rw [he] at hr; injection hr with hr; exact h rows hr.symm)⟩

theorem off_near {p : Pt} (h : Near p) : p.off = false := by
  obtain ⟨h1, h2⟩ := h
  unfold Pt.off
  rw [inm_iff.2 h1, inm_iff.2 h2]; rfl
theorem pright_zero {kind : Int} {A : List PRow} (hk : 1 ≤ kind ∧ kind ≤ 3) (hne : A ≠ []) (h1 : kind = 1 → A.length = 1) (h : ∀ r ∈ A, kind ≤ (r.l.length : Int) ∧ ∀ x ∈ r.l, Near x) : pright kind A = 0 := by
  unfold pright
  have a0 : A.length ≠ 0 := fun e => hne (List.eq_nil_of_length_eq_zero e)
  have a1 : ¬ (A.length = 0 ∨ (kind = 1 ∧ 1 < A.length)) := by
    rintro (e | ⟨e1, e2⟩)
    · exact a0 e
    · have := h1 e1; omega
  have a2 : ¬ ∃ r ∈ A, (r.l.length : Int) < kind := by
    rintro ⟨r, hr, h2⟩
    have := (h r hr).1
    omega
  have a3 : offsR A = false := by
    unfold offsR offs
    rw [Bool.eq_false_iff]
    intro e
    obtain ⟨r, hr, e⟩ := List.any_eq_true.1 e
    obtain ⟨x, hx, e⟩ := List.any_eq_true.1 e
    rw [off_near ((h r hr).2 x hx)] at e
    cases e
  rw [if_neg (by omega), if_neg a1, if_neg a2, a3]
  rfl

set_option maxRecDepth 100000 in
set_option maxHeartbeats 4000000 in
theorem pathDecodes_walk (kind : Int) (l : List Int) (lv : Value) (S : Nat → Prop) (w : World) (hl : Rd w S 1 lv l.length (U32 l)) (hu : ∀ x ∈ l, 0 ≤ x ∧ x ≤ 4294967295) {R : Ending → World → Prop} (hR : ∀ w', Grow w w' → R (.returned (.bool true)) w') :
    Calls Try.prog 7 #[.int .i64 kind, lv] w R := by
  have HR := Lib.hid hR
  have hl := hl.lt (by decide)
  have HL := Lib.hid hl
  have HU := Lib.hid hu
  obtain ⟨_, A, c, rfl, h1, h2, -, -⟩ := hl
  unfold maxLen at h2
  clear hR hu
  by_cases h4 : l.length ≤ 400
  · have t1 : decide (400 < (l.length : Int)) = false := decide_eq_false (by omega)
    have HLEN : Hid (l.length ≤ 1000) := Nat.le_trans h4 (by decide)
    have HL4 := Lib.hid h4
    clear h4
    cases hd : decS kind l with
    | error e =>
      have e0 := decS_err hd
      have t2 : (e != 0) = true := by rw [bne_iff_ne]; exact e0
      have HD := Lib.hid hd
      clear hd e0
      go_enter Try.func7, Try.ntmps7
      go_wp2_with fail
      clear t1
      refine decode_any kind l _ _ w HL.out HU.out HLEN.out (decH_err HD.out ?_)
      intro w1 hg1
      have G1 := Lib.hid hg1
      clear hg1
      go_wp2_with fail
      refine rdecode_any kind l _ _ w1 (HL.out.gr2 (by decide) G1.out) HU.out HLEN.out (decH_err HD.out ?_)
      intro w2 hg2
      have G2 := Lib.hid (G1.out.tr hg2)
      clear hg2
      go_wp2_with fail
      refine rsame9_any (.slice none 0 0) (.slice none 0 0) [] [] (fun _ => True) (fun _ => True) (fun _ => True) (fun _ => True) w2 Rd.nil (fun r hr => by cases hr) Rd.nil (fun r hr => by cases hr) ?_
      intro w3 hg3
      rw [decide_eq_true rfl]
      have G3 := Lib.hid (G2.out.tr hg3)
      clear hg3
      go_wp2_with fail
      refine code9_any e _ ?_
      go_wp2_with fail
      refine live9_any _ ?_
      intro w9 hg9
      go_wp2
      exact HR.out _ (G3.out.tr hg9)
    | ok ps =>
      have HD := Lib.hid hd
      obtain ⟨hk, henc, hne, hone, hall⟩ := dec_enc (fun x hx => (HU.out x hx).1) hd
      have HE := Lib.hid henc
      have HPR : Hid (∀ rows : List PRow, rows.map PRow.l = ps → pright kind rows = 0) := fun rows hr => by
        subst hr
        exact pright_zero hk (fun e => hne (by rw [e]; rfl)) (fun h => by have := hone h; rwa [List.length_map] at this) (fun r hr => hall _ (List.mem_map_of_mem hr))
      clear hd henc hne hone hall hk
      go_enter Try.func7, Try.ntmps7
      go_wp2_with fail
      clear t1
      refine decode_any kind l _ _ w HL.out HU.out HLEN.out (decH_ok HD.out ?_)
      intro rows1 hr1 v1 w1 hO1 hR1 hg1
      have G1 := Lib.hid hg1
      have O1 := Lib.hid hO1
      have R1 := Lib.hid hR1
      have E1 := Lib.hid hr1
      clear hg1 hO1 hR1 hr1
      go_wp2_with fail
      refine rdecode_any kind l _ _ w1 (HL.out.gr2 (by decide) G1.out) HU.out HLEN.out (decH_ok HD.out ?_)
      intro rows2 hr2 v2 w2 hO2 hR2 hg2
      have G2 := Lib.hid (G1.out.tr hg2)
      have G12 := Lib.hid hg2
      have O2 := Lib.hid hO2
      have R2 := Lib.hid hR2
      have E2 := Lib.hid hr2
      have O12 := Lib.hid (own_grow O1.out hg2)
      have R12 : Hid (∀ r ∈ rows1, r.rd w2 (fun b => w.heap.size ≤ b)) := fun r hr => (R1.out r hr : Rd _ _ _ _ _ _).gr2 (by decide) hg2
      clear hg2 hO2 hR2 hr2
      go_wp2_with fail
      refine rsame9_any v1 v2 rows1 rows2 _ _ _ _ w2 (Rd.own O12.out) R12.out (Rd.own O2.out) R2.out ?_
      intro w3 hg3
      rw [decide_eq_true (E1.out.trans E2.out.symm)]
      have G3 := Lib.hid (G2.out.tr hg3)
      have O13 := Lib.hid (own_grow O12.out hg3)
      have R13 : Hid (∀ r ∈ rows1, r.rd w3 (fun b => w.heap.size ≤ b)) := fun r hr => (R12.out r hr : Rd _ _ _ _ _ _).gr2 (by decide) hg3
      clear hg3
      go_wp2_with fail
      refine code9_any 0 _ ?_
      go_wp2_with fail
      refine encodeOk_any kind v1 rows1 _ _ w3 (Rd.own O13.out) R13.out (HPR.out _ E1.out) (by rw [E1.out, HE.out]; exact HLEN.out) ?_
      rw [E1.out, HE.out]
      intro v4 w4 hO4 hg4
      have G4 := Lib.hid (G3.out.tr hg4)
      have O4 := Lib.hid hO4
      clear hg4 hO4
      go_wp2_with fail
      refine code9_any 0 _ ?_
      go_wp2_with fail
      refine sameInts_any v4 _ l l _ _ w4 (Rd.own O4.out) (HL.out.gr2 (by decide) G4.out) ?_
      intro w5 hg5
      rw [decide_eq_true rfl]
      have G5 := Lib.hid (G4.out.tr hg5)
      clear hg5
      go_wp2_with fail
      refine live9_any _ ?_
      intro w9 hg9
      go_wp2
      exact HR.out _ (G5.out.tr hg9)
  · have t1 : decide (400 < (l.length : Int)) = true := decide_eq_true (by omega)
    have G0 := Lib.hid (Grow.refl w)
    clear h4
    go_enter Try.func7, Try.ntmps7
    go_wp2_with fail
    refine live9_any _ ?_
    intro w9 hg9
    go_wp2
    exact HR.out _ (G0.out.tr hg9)
end Go.Proofs.Ytehffeglgdcogaa
