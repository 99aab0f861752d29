/-
  Tiles got of bytes: what once means in plain Lean; what is picked of fields.
-/
import Derived.Test.YtjalimkajcjapaaDoorChecked
import Derived.Test.YtjalimkajcjapaaDoorTAttrs
namespace Go.Proofs.YtjalimkajcjapaaDoor
open Go.RowKit B

def zFld : Fld := ⟨0, 0, 0, [], .slice none 0 0⟩
/-- the first field of a number, or zeros -/
def pickF (fs : List Fld) (n : Int) : Fld := (fs.find? fun f => decide (f.num = n)).getD zFld
theorem numF_fd (fs : List Fld) (n : Int) : numF (fs.map Fld.fd) n = (fs.filter fun f => decide (f.num = n)).map Fld.fd := by
  unfold numF
  rw [List.filter_map]
  rfl
theorem pick_num (fs : List Fld) (n : Int) : (numF (fs.map Fld.fd) n = [] ∧ fs.find? (fun f => decide (f.num = n)) = none ∧ pickF fs n = zFld) ∨
    (∃ r, numF (fs.map Fld.fd) n = (pickF fs n).fd :: r) ∧ fs.find? (fun f => decide (f.num = n)) = some (pickF fs n) ∧ pickF fs n ∈ fs := by
  cases h : fs.find? fun f => decide (f.num = n) with
  | none =>
    refine .inl ⟨?_, rfl, by unfold pickF; rw [h]; rfl⟩
    rw [numF_fd]
    have := List.find?_eq_none.1 h
    rw [List.filter_eq_nil_iff.2 this]
    rfl
  | some g =>
    have e : pickF fs n = g := by unfold pickF; rw [h]; rfl
    rw [e]
    refine .inr ⟨?_, rfl, List.mem_of_find?_eq_some h⟩
    rw [numF_fd]
    have h2 := (List.head?_filter (l := fs) (p := fun f => decide (f.num = n))).trans h
    cases hf : fs.filter fun f => decide (f.num = n) with
    | nil => rw [hf] at h2; cases h2
    | cons a r =>
      rw [hf] at h2
      injection h2 with h2
      rw [h2]
      exact ⟨r.map Fld.fd, rfl⟩
theorem pick_data (fs : List Fld) (n : Int) : dataF (fs.map Fld.fd) n = (pickF fs n).data := by
  unfold dataF
  rcases pick_num fs n with ⟨h1, -, h3⟩ | ⟨⟨r, h1⟩, -, -⟩
  · rw [h1, h3]; rfl
  · rw [h1]; rfl
theorem pick_fld {T M : List (Int × Int)} (fs : List Fld) {n : Int} (hM : tabL M n = none) (hT : (tabL T n).isSome = true) : fldF (fs.filter (inT T M)) (.int .i64 n) = (fs.find? fun f => decide (f.num = n)).map fldC := by
  unfold fldF
  dsimp only
  rw [List.find?_filter]
  congr 2
  funext f
  by_cases h : f.num = n
  · unfold inT
    rw [h, hM, hT]
    simp
  · simp [h]
theorem tabL_cons (a b : Int) (T : List (Int × Int)) (n : Int) : tabL ((a, b) :: T) n = if a = n then some b else tabL T n := by
  unfold tabL
  rw [List.find?_cons]
  by_cases h : a = n <;> simp [h]
theorem tabL_nil (n : Int) : tabL [] n = none := rfl
theorem nod_len : ∀ L : List Fld, (L.map Fld.num).Nodup ↔ ∀ n, (L.filter fun f => decide (f.num = n)).length ≤ 1
  | [] => by simp
  | f :: L => by
    have ih := nod_len L
    rw [List.map_cons, List.nodup_cons, ih]
    constructor
    · rintro ⟨h1, h2⟩ n
      rw [List.filter_cons]
      split
      · rename_i h
        simp only [decide_eq_true_eq] at h
        have : L.filter (fun f => decide (f.num = n)) = [] := by
          rw [List.filter_eq_nil_iff]
          intro g hg e
          simp only [decide_eq_true_eq] at e
          exact h1 (List.mem_map.2 ⟨g, hg, e.trans h.symm⟩)
        rw [this]
        simp
      · exact h2 n
    · intro h
      constructor
      · intro hm
        obtain ⟨g, hg, e⟩ := List.mem_map.1 hm
        have h1 := h f.num
        rw [List.filter_cons, if_pos (by simp), List.length_cons] at h1
        have h2 : 0 < (L.filter fun q => decide (q.num = f.num)).length := List.length_pos_of_mem (List.mem_filter.2 ⟨hg, by simpa using e⟩)
        omega
      · intro n
        have h1 := h n
        rw [List.filter_cons] at h1
        split at h1
        · rw [List.length_cons] at h1; omega
        · exact h1
theorem once_iff (T M : List (Int × Int)) (fs : List Fld) : OnceOk T M fs ↔ (∀ n k, tabL M n = some k → kindF (fs.map Fld.fd) n k = true) ∧ ∀ n k, tabL M n = none → tabL T n = some k → kindF (fs.map Fld.fd) n k = true ∧ (numF (fs.map Fld.fd) n).length ≤ 1 := by
  have kd : ∀ n k, kindF (fs.map Fld.fd) n k = true ↔ ∀ f ∈ fs, f.num = n → f.kind = k := by
    intro n k
    unfold kindF
    rw [List.all_map, List.all_eq_true]
    constructor
    · intro h f hf e
      have := h f hf
      simp only [Function.comp_apply, Bool.or_eq_true, Bool.not_eq_true', decide_eq_false_iff_not, decide_eq_true_eq] at this
      exact this.resolve_left fun h => h e
    · intro h f hf
      simp only [Function.comp_apply, Bool.or_eq_true, Bool.not_eq_true', decide_eq_false_iff_not, decide_eq_true_eq]
      by_cases e : f.num = n
      · exact .inr (h f hf e)
      · exact .inl e
  have fl : ∀ n, ((fs.filter (inT T M)).filter fun f => decide (f.num = n)) = if (tabL M n).isNone && (tabL T n).isSome then fs.filter fun f => decide (f.num = n) else [] := by
    intro n
    rw [List.filter_filter]
    split
    · rename_i h
      congr 1
      funext f
      by_cases e : f.num = n
      · unfold inT
        rw [e, h]
        simp
      · simp [e]
    · rename_i h
      rw [List.filter_eq_nil_iff]
      intro f _ e
      simp only [Bool.and_eq_true, decide_eq_true_eq] at e
      unfold inT at e
      rw [e.1] at e
      exact h (by simpa using e.2)
  unfold OnceOk
  rw [nod_len]
  simp only [kd]
  constructor
  · rintro ⟨h1, h2, h3⟩
    refine ⟨fun n k hk f hf e => h1 f hf k (e ▸ hk), fun n k hm ht => ⟨fun f hf e => h2 f hf (e ▸ hm) k (e ▸ ht), ?_⟩⟩
    have := h3 n
    rw [fl, hm, ht, if_pos (by rfl)] at this
    rw [numF_fd, List.length_map]
    exact this
  · rintro ⟨h1, h2⟩
    refine ⟨fun f hf k hk => h1 f.num k hk f hf rfl, fun f hf hm k ht => (h2 f.num k hm ht).1 f hf rfl, fun n => ?_⟩
    rw [fl]
    split
    · rename_i h
      simp only [Bool.and_eq_true, Option.isNone_iff_eq_none, Option.isSome_iff_exists] at h
      obtain ⟨hm, k, ht⟩ := h
      have := (h2 n k hm ht).2
      rw [numF_fd, List.length_map] at this
      exact this
    · simp
theorem onceF_iff (fs : List Fld) : onceF (fs.map Fld.fd) = true ↔ OnceOk [(1, 0), (2, 2), (3, 0), (4, 2)] [] fs := by
  rw [once_iff]
  unfold onceF
  simp only [List.all_cons, List.all_nil, Bool.and_true, Bool.and_eq_true, decide_eq_true_eq, tabL_cons, tabL_nil]
  constructor
  · rintro ⟨⟨⟨⟨⟨a1, a2, a3, a4⟩, k1⟩, k2⟩, k3⟩, k4⟩
    refine ⟨fun n k h => (by cases h), fun n k _ h => ?_⟩
    split at h
    · rename_i e; injection h with h; subst e h; exact ⟨k1, a1⟩
    · split at h
      · rename_i e; injection h with h; subst e h; exact ⟨k2, a2⟩
      · split at h
        · rename_i e; injection h with h; subst e h; exact ⟨k3, a3⟩
        · split at h
          · rename_i e; injection h with h; subst e h; exact ⟨k4, a4⟩
          · cases h
  · rintro ⟨-, h⟩
    have h1 := h 1 0 trivial (by simp)
    have h2 := h 2 2 trivial (by simp)
    have h3 := h 3 0 trivial (by simp)
    have h4 := h 4 2 trivial (by simp)
    exact ⟨⟨⟨⟨⟨h1.2, h2.2, h3.2, h4.2⟩, h1.1⟩, h2.1⟩, h3.1⟩, h4.1⟩
theorem onceL_iff (fs : List Fld) : onceL (fs.map Fld.fd) = true ↔ OnceOk [(1, 2), (5, 0), (15, 0)] [(2, 2), (3, 2), (4, 2)] fs := by
  rw [once_iff]
  unfold onceL
  simp only [List.all_cons, List.all_nil, Bool.and_true, Bool.and_eq_true, decide_eq_true_eq, tabL_cons, tabL_nil]
  constructor
  · rintro ⟨⟨⟨⟨⟨⟨⟨a1, a5, a15⟩, k1⟩, k2⟩, k3⟩, k4⟩, k5⟩, k15⟩
    refine ⟨fun n k h => ?_, fun n k _ h => ?_⟩
    · split at h
      · rename_i e; injection h with h; subst e h; exact k2
      · split at h
        · rename_i e; injection h with h; subst e h; exact k3
        · split at h
          · rename_i e; injection h with h; subst e h; exact k4
          · cases h
    · split at h
      · rename_i e; injection h with h; subst e h; exact ⟨k1, a1⟩
      · split at h
        · rename_i e; injection h with h; subst e h; exact ⟨k5, a5⟩
        · split at h
          · rename_i e; injection h with h; subst e h; exact ⟨k15, a15⟩
          · cases h
  · rintro ⟨g, h⟩
    have g2 := g 2 2 (by simp)
    have g3 := g 3 2 (by simp)
    have g4 := g 4 2 (by simp)
    have h1 := h 1 2 (by simp) (by simp)
    have h5 := h 5 0 (by simp) (by simp)
    have h15 := h 15 0 (by simp) (by simp)
    exact ⟨⟨⟨⟨⟨⟨⟨h1.2, h5.2, h15.2⟩, h1.1⟩, g2⟩, g3⟩, g4⟩, h5.1⟩, h15.1⟩
end Go.Proofs.YtjalimkajcjapaaDoor
