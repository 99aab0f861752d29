/-
  The laws of chapter 9: PathDecodes and PathEncodes.
-/
import Derived.Test.YtjalimkajcjapaaDoorChecked
import Derived.Test.YtjalimkajcjapaaDoorPRefA
import Derived.Test.YtjalimkajcjapaaDoorPEncA
import Derived.Test.YtjalimkajcjapaaDoorPSame
namespace Go.Proofs.YtjalimkajcjapaaDoor
open Go.RowKit B

theorem cmdS_err {k low high : Int} {a : Pt} {l : List Int} {e : Int} (h : cmdS k low high a l = .error e) : e ≠ 0 := by
  cases l with
  | nil => simp [cmdS] at h; omega
  | cons c l =>
    simp only [cmdS] at h
    split at h
    · simp at h; omega
    · rcases ptsS_err _ _ _ _ h with h | h <;> omega
theorem pathS_err {kind : Int} {a : Pt} {l : List Int} {e : Int} (h : pathS kind a l = .error e) : e ≠ 0 := by
  unfold pathS at h
  cases h1 : cmdS 1 1 1 a l with
  | error e1 => rw [h1] at h; simp at h; subst h; exact cmdS_err h1
  | ok v =>
    obtain ⟨p, r⟩ := v
    rw [h1] at h
    dsimp only at h
    cases h2 : cmdS 2 (kind - 1) 536870912 (lastPt a p) r with
    | error e1 => rw [h2] at h; simp at h; subst h; exact cmdS_err h2
    | ok v =>
      obtain ⟨q, s⟩ := v
      rw [h2] at h
      dsimp only at h
      unfold endS at h
      split at h
      · cases s with
        | nil => simp at h; omega
        | cons c s =>
          dsimp only at h
          split at h
          · simp at h
          · simp at h; omega
      · simp at h
theorem decG_err0 {kind : Int} : ∀ (f : Nat) (a : Pt) (l : List Int) (e : Int), decG f kind a l = .error e → e ≠ 0
  | 0, a, l, e, h => by simp [decG] at h
  | f + 1, a, l, e, h => by
    simp only [decG] at h
    cases h1 : pathS kind a l with
    | error e1 => rw [h1] at h; simp at h; subst h; exact pathS_err h1
    | ok v =>
      obtain ⟨p, r⟩ := v
      rw [h1] at h
      cases r with
      | nil => simp at h
      | cons c r =>
        dsimp only at h
        cases h2 : decG f kind (lastPt a p) (c :: r) with
        | error e1 => rw [h2] at h; simp at h; subst h; exact decG_err0 f _ _ _ h2
        | ok qs => rw [h2] at h; simp at h
theorem decS_err {kind : Int} {l : List Int} {e : Int} (h : decS kind l = .error e) : e ≠ 0 := by
  unfold decS at h
  split at h
  · simp at h; omega
  · split at h
    · unfold dec1 at h
      cases h1 : cmdS 1 1 536870912 ⟨0, 0⟩ l with
      | error e1 => rw [h1] at h; simp at h; subst h; exact cmdS_err h1
      | ok v =>
        obtain ⟨p, r⟩ := v
        rw [h1] at h
        cases r with
        | nil => simp at h
        | cons c r => simp at h; omega
    · exact decG_err0 _ _ _ _ h

theorem decode_any (kind : Int) (l : List Int) (lv : Value) (S : Nat → Prop) (w : World) (hl : Rd w S 1 lv l.length (U32 l)) (hu : ∀ x ∈ l, 0 ≤ x ∧ x ≤ 4294967295) (hlen : l.length ≤ 1000) {R : Ending → World → Prop} (hR : DecH kind l w R) :
    Calls Tryd.prog 70 #[.int .i64 kind, lv] w R := by
  by_cases hk : 1 ≤ kind ∧ kind ≤ 3
  · by_cases h1 : kind = 1
    · subst h1; exact decode_one l lv S w hl hu hlen hR
    · exact decode_more kind l lv S w (by omega) hl hu hlen hR
  · exact decode_bad kind l lv w hk hR
theorem decH_err {kind : Int} {l : List Int} {w : World} {R : Ending → World → Prop} {e : Int} (he : decS kind l = .error e) (h : ∀ w', Grow w w' → R (.returned (.tuple #[.slice none 0 0, .int .i64 e])) w') : DecH kind l w R :=
  ⟨fun e' he' => by rw [he] at he'; injection he' with he'; subst he'; exact h, fun rows hr => by rw [he] at hr; cases hr⟩
theorem decH_ok {kind : Int} {l : List Int} {w : World} {R : Ending → World → Prop} {ps : List (List Pt)} (he : decS kind l = .ok ps)
    (h : ∀ (rows : List PRow), rows.map PRow.l = ps → ∀ v w', w'.ownsRow w.heap.size 78 1 v rows.length (rows.map PRow.v) → (∀ r ∈ rows, r.rd w' (fun b => w.heap.size ≤ b)) → Grow w w' → R (.returned (.tuple #[v, .int .i64 0])) w') : DecH kind l w R :=
  ⟨fun e' he' => (by rw [he] at he'; cases he'), fun rows hr => (by rw [he] at hr; injection hr with hr; exact h rows hr.symm)⟩

theorem off_near {p : Pt} (h : Near p) : p.off = false := by
  obtain ⟨h1, h2⟩ := h
  unfold Pt.off
  rw [inm_iff.2 h1, inm_iff.2 h2]; rfl
theorem pright_zero {kind : Int} {A : List PRow} (hk : 1 ≤ kind ∧ kind ≤ 3) (hne : A ≠ []) (h1 : kind = 1 → A.length = 1) (h : ∀ r ∈ A, kind ≤ (r.l.length : Int) ∧ ∀ x ∈ r.l, Near x) : pright kind A = 0 := by
  unfold pright
  have a0 : A.length ≠ 0 := fun e => hne (List.eq_nil_of_length_eq_zero e)
  have a1 : ¬ (A.length = 0 ∨ (kind = 1 ∧ 1 < A.length)) := by
    rintro (e | ⟨e1, e2⟩)
    · exact a0 e
    · have := h1 e1; omega
  have a2 : ¬ ∃ r ∈ A, (r.l.length : Int) < kind := by
    rintro ⟨r, hr, h2⟩
    have := (h r hr).1
    omega
  have a3 : offsR A = false := by
    unfold offsR offs
    rw [Bool.eq_false_iff]
    intro e
    obtain ⟨r, hr, e⟩ := List.any_eq_true.1 e
    obtain ⟨x, hx, e⟩ := List.any_eq_true.1 e
    rw [off_near ((h r hr).2 x hx)] at e
    cases e
  rw [if_neg (by omega), if_neg a1, if_neg a2, a3]
  rfl

end Go.Proofs.YtjalimkajcjapaaDoor
