import Derived.Test.YtfdjdfobhkmlpaaArea
import Derived.Test.YtfdjdfobhkmlpaaHeld
namespace Go.Proofs.Ytfdjdfobhkmlpaa
open Go.RowKit B

def sgnI (n : Int) : Int := if n < 0 then -1 else if 0 < n then 1 else 0
def cmpI (a b : Int) : Int := if a < b then -1 else if b < a then 1 else 0

set_option maxRecDepth 100000 in
set_option maxHeartbeats 1000000 in
theorem cmpInt_any (a b : Int) (w : World) {R : Ending → World → Prop} (hR : R (.returned (.int .i64 (cmpI a b))) w) :
    Calls Try.prog 33 #[.int .i64 a, .int .i64 b] w R := by
  have HR1 : ∀ n, cmpI a b = n → R (.returned (.int .i64 n)) w := by rintro n rfl; exact hR
  have HR := Lib.hid HR1
  clear hR HR1
  by_cases h1 : a < b
  · go_enter Try.func33, Try.ntmps33
    go_wp2
    exact HR.out _ (by unfold cmpI; rw [if_pos h1])
  · by_cases h2 : b < a
    · go_enter Try.func33, Try.ntmps33
      go_wp2
      exact HR.out _ (by unfold cmpI; rw [if_neg (by omega), if_pos h2])
    · go_enter Try.func33, Try.ntmps33
      go_wp2
      exact HR.out _ (by unfold cmpI; rw [if_neg (by omega), if_neg (by omega)])
theorem cmpI_zero (n : Int) : cmpI n 0 = sgnI n := rfl

def areaV (l : List Pt) : Int := if rightL l = true then areaOf l else 0

set_option maxRecDepth 100000 in
set_option maxHeartbeats 1000000 in
theorem wsign_any (l : List Pt) (v : Value) (S : Nat → Prop) (w : World) (hb : Rd w S 2 v l.length (Pts l)) {R : Ending → World → Prop}
    (hR : ∀ w', Grow w w' → R (.returned (.int .i64 (sgnI (areaV l)))) w') :
    Calls Try.prog 20 #[v] w R := by
  have HR := Lib.hid hR
  have HA := Lib.hid fun (R : Ending → World → Prop) hR => area_any l v S w hb (R := R) hR
  have HC := Lib.hid fun W (R : Ending → World → Prop) hR => cmpInt_any (areaV l) 0 W (R := R) hR
  rw [cmpI_zero] at HC
  change Hid (∀ (R : Ending → World → Prop), (∀ w', Grow w w' → R (.returned (.tuple #[.int .i64 (areaV l), .bool (rightL l)])) w') → Calls Try.prog 32 #[v] w R) at HA
  clear hR hb
  generalize sgnI (areaV l) = s at *
  generalize areaV l = n at *
  generalize rightL l = b at *
  go_enter Try.func20, Try.ntmps20
  go_wp2_with fail
  refine HA.out _ ?_
  intro w1 hg1
  go_wp2_with fail
  refine HC.out _ _ ?_
  go_wp2
  exact HR.out _ hg1

/-- what the reference adds up: as far as place k -/
def sumA (l : List Pt) (k : Nat) : Int := areaS ((edgesL l).take k)
def sumP (f : Pt × Pt → Int) : List (Pt × Pt) → Int
  | [] => 0
  | x :: l => f x + sumP f l
theorem sumP_snoc (f : Pt × Pt → Int) (l : List (Pt × Pt)) (x : Pt × Pt) : sumP f (l ++ [x]) = sumP f l + f x := by
  induction l with
  | nil => simp [sumP]
  | cons y l ih => simp only [List.cons_append, sumP, ih]; omega
theorem areaS_split (l : List (Pt × Pt)) : areaS l = sumP (fun x => x.1.x * x.2.y) l - sumP (fun x => x.2.x * x.1.y) l := by
  induction l with
  | nil => rfl
  | cons x l ih => simp only [areaS, sumP, crossT, ih]; omega
theorem sumP_bd (f : Pt × Pt → Int) : ∀ l : List (Pt × Pt), (∀ x ∈ l, -4398046511104 ≤ f x ∧ f x ≤ 4398046511104) → -(4398046511104 * (l.length : Int)) ≤ sumP f l ∧ sumP f l ≤ 4398046511104 * (l.length : Int)
  | [], _ => by simp [sumP]
  | x :: l, h => by
    have ih := sumP_bd f l (fun y hy => h y (List.mem_cons_of_mem _ hy))
    have hx := h x (List.mem_cons_self ..)
    simp only [sumP, List.length_cons]
    generalize sumP f l = s at *
    omega
theorem edgesL_in {l : List Pt} (h : ∀ p ∈ l, (-2097152 ≤ p.x ∧ p.x ≤ 2097152) ∧ -2097152 ≤ p.y ∧ p.y ≤ 2097152) : ∀ x ∈ edgesL l, ((-2097152 ≤ x.1.x ∧ x.1.x ≤ 2097152) ∧ -2097152 ≤ x.1.y ∧ x.1.y ≤ 2097152) ∧ (-2097152 ≤ x.2.x ∧ x.2.x ≤ 2097152) ∧ -2097152 ≤ x.2.y ∧ x.2.y ≤ 2097152 := by
  intro x hx
  obtain ⟨i, hi, rfl⟩ := List.getElem_of_mem hx
  rw [edgesL_len] at hi
  rw [edgesL_at hi]
  exact ⟨h _ (List.getElem_mem hi), h _ (List.getElem_mem (Nat.mod_lt (i + 1) (show 0 < l.length by omega)))⟩

end Go.Proofs.Ytfdjdfobhkmlpaa
