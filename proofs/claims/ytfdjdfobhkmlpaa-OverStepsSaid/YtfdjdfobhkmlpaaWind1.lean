import Derived.Test.YtfdjdfobhkmlpaaChecked
import Derived.Test.YtfdjdfobhkmlpaaCore
import Derived.Test.YtfdjdfobhkmlpaaPts0
import Derived.Test.YtfdjdfobhkmlpaaFidx
namespace Go.Proofs.Ytfdjdfobhkmlpaa
open Go.RowKit

def inr (n : Int) : Bool := decide (-2097152 ≤ n) && decide (n ≤ 2097152)
def Pt.inr (p : Pt) : Bool := Go.Proofs.Ytfdjdfobhkmlpaa.inr p.x && Go.Proofs.Ytfdjdfobhkmlpaa.inr p.y
theorem inr_iff {n : Int} : inr n = true ↔ -2097152 ≤ n ∧ n ≤ 2097152 := by simp [inr]
theorem Pt.inr_iff {p : Pt} : p.inr = true ↔ (-2097152 ≤ p.x ∧ p.x ≤ 2097152) ∧ -2097152 ≤ p.y ∧ p.y ≤ 2097152 := by simp [Pt.inr, Go.Proofs.Ytfdjdfobhkmlpaa.inr]

set_option maxRecDepth 100000 in
set_option maxHeartbeats 1000000 in
theorem wout_any (p : Pt) (w : World) {R : Ending → World → Prop} (hR : ∀ w', Grow w w' → R (.returned (.bool (!p.inr))) w') : Calls Try.prog 60 #[.agg p.cells.toArray] w R := by
  obtain ⟨x, y⟩ := p
  have HR1 : ∀ b w', (!Pt.inr ⟨x, y⟩) = b → Grow w w' → R (.returned (.bool b)) w' := by rintro b w' rfl h; exact hR _ h
  have HR := Lib.hid HR1
  clear hR HR1
  unfold Pt.cells
  dsimp only
  have conv : ∀ a b : Int, decide (a < b) = !decide (b ≤ a) := by intro a b; by_cases h : a < b <;> simp [h] <;> omega
  have CV := Lib.hid conv
  clear conv
  cases h1 : decide (x < -2097152)
  · cases h2 : decide (2097152 < x)
    · cases h3 : decide (y < -2097152)
      · go_enter Try.func60, Try.ntmps60
        go_wp2
        refine HR.out _ _ ?_ ((Grow.refl w).al _)
        rw [CV.out] at h1 h2 h3 ⊢
        simp only [Bool.not_eq_false'] at h1 h2 h3
        simp [Pt.inr, Go.Proofs.Ytfdjdfobhkmlpaa.inr, h1, h2, h3]
      · go_enter Try.func60, Try.ntmps60
        go_wp2
        refine HR.out _ _ ?_ ((Grow.refl w).al _)
        rw [CV.out] at h3
        simp only [Bool.not_eq_true'] at h3
        simp [Pt.inr, Go.Proofs.Ytfdjdfobhkmlpaa.inr, h3]
    · go_enter Try.func60, Try.ntmps60
      go_wp2
      refine HR.out _ _ ?_ ((Grow.refl w).al _)
      rw [CV.out] at h2
      simp only [Bool.not_eq_true'] at h2
      simp [Pt.inr, Go.Proofs.Ytfdjdfobhkmlpaa.inr, h2]
  · go_enter Try.func60, Try.ntmps60
    go_wp2
    refine HR.out _ _ ?_ ((Grow.refl w).al _)
    rw [CV.out] at h1
    simp only [Bool.not_eq_true'] at h1
    simp [Pt.inr, Go.Proofs.Ytfdjdfobhkmlpaa.inr, h1]

set_option maxRecDepth 100000 in
set_option maxHeartbeats 2000000 in
theorem indexOut_any (l : List Pt) (v : Value) (S : Nat → Prop) (w : World) (hb : Rd w S 2 v l.length (Pts l)) {R : Ending → World → Prop}
    (hR : ∀ w', Grow w w' → R (.returned (.int .i64 (fidx (fun p => !p.inr) l))) w') :
    Calls Try.prog 46 #[v, .func (.func 60) #[] #[]] w R := by
  have HR := Lib.hid hR
  clear hR
  have hb := hb.lt (by decide)
  obtain ⟨_, A, c, rfl, k1, k2, k3, k4⟩ := hb
  unfold maxLen at k2
  go_enter Try.func46, Try.ntmps46
  go_wp2
  go_loopw [8] (fun i wr => ∃ (k : Nat), k ≤ l.length ∧ i = .int .i64 k ∧ Hid (∀ q ∈ l.take k, (!q.inr) = false) ∧ Hid (Grow w wr)) (fun i _ => l.length - (intOf i).toNat)
  case atStart => exact ⟨0, Nat.zero_le _, rfl, fun q hq => by simp at hq, Grow.refl _⟩
  case round =>
    obtain ⟨k, hk, rfl, hall, hg⟩ := hrel
    by_cases hlt : k < l.length
    · obtain ⟨b, o, rfl, hS, hc⟩ := k4 (by omega)
      have e1 := flat_cells Pt.cells_len hg.out hS hc hlt
      clear hc k4 k3
      have NX : Hid ((!(l[k]'hlt).inr) = false → ∀ q ∈ l.take (k + 1), (!q.inr) = false) := take_all_succ hlt hall.out
      have FD : Hid ((!(l[k]'hlt).inr) = true → fidx (fun p => !p.inr) l = k) := fidx_some hlt hall.out
      have HI := Lib.hid fun W (R : Ending → World → Prop) hR => wout_any (l[k]'hlt) W (R := R) hR
      generalize (!(l[k]'hlt).inr) = bi at *
      generalize l[k]'hlt = x at *
      obtain ⟨x1, x2⟩ := x
      have c1 := e1 0 _ rfl
      have c2 := e1 1 _ rfl
      clear e1
      simp only [Nat.add_zero] at c1
      unfold Pt.cells at HI
      dsimp only at HI
      cases bi with
      | false =>
        go_wp2_with (go_at_call 60; refine HI.out _ _ ?_; intro w1 hg1; have HG1 := Lib.hid (hg.out.tr hg1); clear hg1 c1 c2)
        go_roundw
        case rel => exact ⟨k + 1, by omega, by go_num, NX.out (by first | rfl | trivial), HG1.out⟩
        case measure => simp [intOf]; omega
      | true =>
        go_wp2_with (go_at_call 60; refine HI.out _ _ ?_; intro w1 hg1; have HG1 := Lib.hid (hg.out.tr hg1); clear hg1 c1 c2)
        have h := HR.out _ HG1.out
        rw [FD.out (by first | rfl | trivial)] at h
        exact h
    · obtain rfl : k = l.length := by omega
      go_wp2
      have h := HR.out _ hg.out
      rw [fidx_none hall.out] at h
      exact h

def rightL (l : List Pt) : Bool := decide (l.length ≤ 262144) && l.all Pt.inr
theorem fidx_all (l : List Pt) : (0 ≤ fidx (fun p => !p.inr) l ∧ l.all Pt.inr = false) ∨ (fidx (fun p => !p.inr) l = -1 ∧ l.all Pt.inr = true) := by
  unfold fidx
  cases h : l.findIdx? (fun p => !p.inr) with
  | none =>
    right
    rw [List.findIdx?_eq_none_iff] at h
    refine ⟨rfl, ?_⟩
    rw [List.all_eq_true]
    intro p hp
    simpa using h p hp
  | some i =>
    left
    refine ⟨by show (0 : Int) ≤ i; omega, ?_⟩
    obtain ⟨hi, hx, _⟩ := List.findIdx?_eq_some_iff_getElem.1 h
    rw [List.all_eq_false]
    exact ⟨l[i], List.getElem_mem hi, by simpa using hx⟩

set_option maxRecDepth 100000 in
set_option maxHeartbeats 1000000 in
theorem containsOut_any (l : List Pt) (v : Value) (S : Nat → Prop) (w : World) (hb : Rd w S 2 v l.length (Pts l)) {R : Ending → World → Prop}
    (hR : ∀ w', Grow w w' → R (.returned (.bool (!l.all Pt.inr))) w') :
    Calls Try.prog 49 #[v, .func (.func 60) #[] #[]] w R := by
  have HR := Lib.hid hR
  have HX := Lib.hid fun (R : Ending → World → Prop) hR => indexOut_any l v S w hb (R := R) hR
  clear hR hb
  rcases fidx_all l with ⟨h1, h2⟩ | ⟨h1, h2⟩
  · rw [h2] at HR
    generalize fidx (fun p => !p.inr) l = i at *
    clear h2
    go_enter Try.func49, Try.ntmps49
    go_wp2_with (go_at_call 46; refine HX.out _ ?_; intro w1 hg1)
    exact HR.out _ hg1
  · rw [h2] at HR
    rw [h1] at HX
    clear h1 h2
    go_enter Try.func49, Try.ntmps49
    go_wp2_with (go_at_call 46; refine HX.out _ ?_; intro w1 hg1)
    exact HR.out _ hg1

set_option maxRecDepth 100000 in
set_option maxHeartbeats 1000000 in
theorem wright_any (l : List Pt) (v : Value) (S : Nat → Prop) (w : World) (hb : Rd w S 2 v l.length (Pts l)) {R : Ending → World → Prop}
    (hR : ∀ w', Grow w w' → R (.returned (.bool (rightL l))) w') :
    Calls Try.prog 43 #[v] w R := by
  have HX := Lib.hid fun (R : Ending → World → Prop) hR => containsOut_any l v S w hb (R := R) hR
  obtain ⟨_, A, c, rfl, k1, k2, -, -⟩ := hb
  unfold maxLen at k2
  cases h1 : decide (l.length ≤ 262144)
  · have hr : rightL l = false := by simp [rightL, h1]
    rw [hr] at hR
    have HR := Lib.hid hR
    have t1 : decide ((l.length : Int) ≤ 262144) = false := by simp at h1 ⊢; omega
    clear hR hr h1
    go_enter Try.func43, Try.ntmps43
    go_wp2
    exact HR.out _ (Grow.refl _)
  · have hr : rightL l = l.all Pt.inr := by simp [rightL, h1]
    rw [hr] at hR
    have HR := Lib.hid hR
    have t1 : decide ((l.length : Int) ≤ 262144) = true := by simp at h1 ⊢; omega
    clear hR hr h1
    generalize l.all Pt.inr = b at *
    go_enter Try.func43, Try.ntmps43
    go_wp2_with (go_at_call 49; refine HX.out _ ?_; intro w1 hg1)
    exact HR.out _ hg1

end Go.Proofs.Ytfdjdfobhkmlpaa
