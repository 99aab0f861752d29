/-
  Values of attributes: Right.
-/
import Derived.Test.YtjalimkajcjapaaDoorChecked
import Derived.Test.YtjalimkajcjapaaDoorVal
import Derived.Test.YtjalimkajcjapaaDoorVShelf
namespace Go.Proofs.YtjalimkajcjapaaDoor
open Go.RowKit B

def Tabs (w : World) : Prop := Lib.Utf8Tabs (Tryd.laysValid_ren.g 3) (Tryd.laysValid_ren.g 4) w
theorem Tabs.gr {w w' : World} (h : Tabs w) (hg : Grow w w') : Tabs w' := Go.Proofs.Utf8Tabs_below h hg

theorem valid_any (s : ByteArray) (hs : s.size ≤ 9223372036854775807) (w : World) (hT : Tabs w) {R : Ending → World → Prop} (hR : ∀ w', Grow w w' → R (.returned (.bool (Lib.validD s.data.toList))) w') :
    Calls Tryd.prog 19 #[.string s] w R := by
  have h : Calls Tryd.prog 19 #[.string s] w _ := Any.utf8_ValidString Tryd.laysValid s w hs hT
  refine h.mono ?_
  rintro e w' ⟨rfl, hb⟩
  exact hR w' hb

def rightV (x : Val) : Bool := if x.k = 1 then Lib.validD x.t.data.toList else if x.k = 2 then decide (x.b < 4294967296) else if x.k = 7 then decide (x.b < 2) else decide (1 ≤ x.k ∧ x.k ≤ 7)
def kindV (k : Int) : Int := if k = 1 then 2 else if k = 2 then 5 else if k = 3 then 1 else 0

set_option maxRecDepth 100000 in
set_option maxHeartbeats 400000 in
theorem kind_any (k : Int) (w : World) {R : Ending → World → Prop} (hR : R (.returned (.int .i64 (kindV k))) w) :
    Calls Tryd.prog 37 #[.int .i64 k] w R := by
  have HR1 : ∀ n, kindV k = n → R (.returned (.int .i64 n)) w := by rintro n rfl; exact hR
  have HR := Lib.hid HR1
  clear hR HR1
  by_cases h1 : k = 1
  · have t1 : (k == 1) = true := by rw [beq_iff_eq]; exact h1
    go_enter Tryd.func37, Tryd.ntmps37
    go_wp2
    exact HR.out _ (by unfold kindV; rw [if_pos h1])
  · have t1 : (k == 1) = false := by rw [beq_eq_false_iff_ne]; exact h1
    by_cases h2 : k = 2
    · have t2 : (k == 2) = true := by rw [beq_iff_eq]; exact h2
      go_enter Tryd.func37, Tryd.ntmps37
      go_wp2
      exact HR.out _ (by unfold kindV; rw [if_neg h1, if_pos h2])
    · have t2 : (k == 2) = false := by rw [beq_eq_false_iff_ne]; exact h2
      by_cases h3 : k = 3
      · have t3 : (k == 3) = true := by rw [beq_iff_eq]; exact h3
        go_enter Tryd.func37, Tryd.ntmps37
        go_wp2
        exact HR.out _ (by unfold kindV; rw [if_neg h1, if_neg h2, if_pos h3])
      · have t3 : (k == 3) = false := by rw [beq_eq_false_iff_ne]; exact h3
        go_enter Tryd.func37, Tryd.ntmps37
        go_wp2
        exact HR.out _ (by unfold kindV; rw [if_neg h1, if_neg h2, if_neg h3])

set_option maxRecDepth 100000 in
set_option maxHeartbeats 1000000 in
theorem right_any (x : Val) (hs : x.t.size ≤ 9223372036854775807) (w : World) (hT : Tabs w) {R : Ending → World → Prop} (hR : ∀ w', Grow w w' → R (.returned (.bool (rightV x))) w') :
    Calls Tryd.prog 36 #[x.v] w R := by
  have HR1 : ∀ c, rightV x = c → ∀ w', Grow w w' → R (.returned (.bool c)) w' := by rintro n rfl; exact hR
  have HR := Lib.hid HR1
  clear hR HR1
  obtain ⟨k, t, b⟩ := x
  have VA := Lib.hid fun W (h : Tabs W) (R : Ending → World → Prop) hR => valid_any t hs W h (R := R) hR
  unfold Val.v
  dsimp only at *
  have HT := Lib.hid (hT.gr ((Grow.refl w).al (.cells #[.int .i64 k, .string t, .int .u64 b] 44)))
  have G0 := Lib.hid ((Grow.refl w).al (.cells #[.int .i64 k, .string t, .int .u64 b] 44))
  clear hT hs
  by_cases h1 : k = 1
  · subst h1
    go_enter Tryd.func36, Tryd.ntmps36
    go_wp2_with fail
    go_at_call 19
    refine VA.out _ HT.out _ ?_
    intro w1 hg1
    go_wp2
    exact HR.out _ (by unfold rightV; rw [if_pos rfl]) _ (G0.out.tr hg1)
  · have t1 : (k == 1) = false := by rw [beq_eq_false_iff_ne]; exact h1
    by_cases h2 : k = 2
    · subst h2
      go_enter Tryd.func36, Tryd.ntmps36
      go_wp2
      refine at_ (HR.out _ rfl _ G0.out) (retb ?_)
      unfold rightV
      rw [if_neg h1, if_pos rfl]
      first | done | exact decide_eq_decide.2 (by constructor <;> intro h <;> (try dsimp only at h ⊢) <;> omega)
    · have t2 : (k == 2) = false := by rw [beq_eq_false_iff_ne]; exact h2
      by_cases h3 : k = 7
      · subst h3
        go_enter Tryd.func36, Tryd.ntmps36
        go_wp2
        refine at_ (HR.out _ rfl _ G0.out) (retb ?_)
        unfold rightV
        rw [if_neg h1, if_neg h2, if_pos rfl]
        first | done | exact decide_eq_decide.2 (by constructor <;> intro h <;> (try dsimp only at h ⊢) <;> omega)
      · have t3 : (k == 7) = false := by rw [beq_eq_false_iff_ne]; exact h3
        have HF : Hid (rightV ⟨k, t, b⟩ = decide (1 ≤ k ∧ k ≤ 7)) := by show _ = _; unfold rightV; rw [if_neg h1, if_neg h2, if_neg h3]
        by_cases h4 : 1 ≤ k
        · have t4 : decide (1 ≤ k) = true := decide_eq_true h4
          go_enter Tryd.func36, Tryd.ntmps36
          go_wp2
          refine at_ (HR.out _ HF.out _ G0.out) (retb ?_)
          first | done | exact decide_eq_decide.2 (by constructor <;> intro h <;> (try dsimp only at h ⊢) <;> omega)
        · have t4 : decide (1 ≤ k) = false := decide_eq_false h4
          go_enter Tryd.func36, Tryd.ntmps36
          go_wp2
          refine at_ (HR.out _ HF.out _ G0.out) (retb ?_)
          exact (decide_eq_false (by omega)).symm
set_option maxRecDepth 100000 in
set_option maxHeartbeats 1000000 in
theorem rright_any (x : Val) (hs : x.t.size ≤ 9223372036854775807) (w : World) (hT : Tabs w) {R : Ending → World → Prop} (hR : ∀ w', Grow w w' → R (.returned (.bool (rightV x))) w') :
    Calls Tryd.prog 44 #[x.v] w R := by
  have HR1 : ∀ c, rightV x = c → ∀ w', Grow w w' → R (.returned (.bool c)) w' := by rintro n rfl; exact hR
  have HR := Lib.hid HR1
  clear hR HR1
  obtain ⟨k, t, b⟩ := x
  have VA := Lib.hid fun W (h : Tabs W) (R : Ending → World → Prop) hR => valid_any t hs W h (R := R) hR
  unfold Val.v
  dsimp only at *
  have HT := Lib.hid (hT.gr ((Grow.refl w).al (.cells #[.int .i64 k, .string t, .int .u64 b] 44)))
  have G0 := Lib.hid ((Grow.refl w).al (.cells #[.int .i64 k, .string t, .int .u64 b] 44))
  clear hT hs
  by_cases h1 : k = 1
  · subst h1
    go_enter Tryd.func44, Tryd.ntmps44
    go_wp2_with fail
    go_at_call 19
    refine VA.out _ HT.out _ ?_
    intro w1 hg1
    go_wp2
    exact HR.out _ (by unfold rightV; rw [if_pos rfl]) _ (G0.out.tr hg1)
  · have t1 : (k == 1) = false := by rw [beq_eq_false_iff_ne]; exact h1
    by_cases h2 : k = 2
    · subst h2
      go_enter Tryd.func44, Tryd.ntmps44
      go_wp2
      refine at_ (HR.out _ rfl _ G0.out) (retb ?_)
      unfold rightV
      rw [if_neg h1, if_pos rfl]
      first | done | exact decide_eq_decide.2 (by constructor <;> intro h <;> (try dsimp only at h ⊢) <;> omega)
    · have t2 : (k == 2) = false := by rw [beq_eq_false_iff_ne]; exact h2
      by_cases h3 : k = 7
      · subst h3
        go_enter Tryd.func44, Tryd.ntmps44
        go_wp2
        refine at_ (HR.out _ rfl _ G0.out) (retb ?_)
        unfold rightV
        rw [if_neg h1, if_neg h2, if_pos rfl]
        first | done | exact decide_eq_decide.2 (by constructor <;> intro h <;> (try dsimp only at h ⊢) <;> omega)
      · have t3 : (k == 7) = false := by rw [beq_eq_false_iff_ne]; exact h3
        have HF : Hid (rightV ⟨k, t, b⟩ = decide (1 ≤ k ∧ k ≤ 7)) := by show _ = _; unfold rightV; rw [if_neg h1, if_neg h2, if_neg h3]
        by_cases h4 : 2 < k
        · have t4 : decide (2 < k) = true := decide_eq_true h4
          go_enter Tryd.func44, Tryd.ntmps44
          go_wp2
          refine at_ (HR.out _ HF.out _ G0.out) (retb ?_)
          first | done | exact decide_eq_decide.2 (by constructor <;> intro h <;> (try dsimp only at h ⊢) <;> omega)
        · have t4 : decide (2 < k) = false := decide_eq_false h4
          go_enter Tryd.func44, Tryd.ntmps44
          go_wp2
          refine at_ (HR.out _ HF.out _ G0.out) (retb ?_)
          exact (decide_eq_false (by omega)).symm
end Go.Proofs.YtjalimkajcjapaaDoor
