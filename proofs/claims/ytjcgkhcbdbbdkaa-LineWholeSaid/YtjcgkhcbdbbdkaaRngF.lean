/-
  Rings and lines clipped at a window: which are out of range; the reference's Right.
-/
import Derived.Test.YtjcgkhcbdbbdkaaChecked
import Derived.Test.YtjcgkhcbdbbdkaaPts
import Derived.Test.YtjcgkhcbdbbdkaaFidx
import Derived.Test.YtjcgkhcbdbbdkaaCore
namespace Go.Proofs.Ytjcgkhcbdbbdkaa
open Go.RowKit

set_option maxRecDepth 100000 in
set_option maxHeartbeats 400000 in
theorem far25_any (n : Int) (w : World) {R : Ending → World → Prop} (hR : R (.returned (.bool (!inw n))) w) : Calls Try.prog 48 #[.int .i64 n] w R := by
  have HR : ∀ b, (!inw n) = b → R (.returned (.bool b)) w := by rintro b rfl; exact hR
  have HR := Lib.hid HR
  clear hR
  by_cases h : -4503599627370496 ≤ n
  · have t1 : decide (n < -4503599627370496) = false := by simp; omega
    go_enter Try.func48, Try.ntmps48
    go_wp2
    simp only [inw, h, decide_true, Bool.true_and, ← decide_not, Int.not_le]
  · have t1 : decide (n < -4503599627370496) = true := by simp; omega
    go_enter Try.func48, Try.ntmps48
    go_wp2
    simp [inw]
    omega
set_option maxRecDepth 100000 in
set_option maxHeartbeats 400000 in
theorem farL_any (n : Int) (w : World) {R : Ending → World → Prop} (hR : R (.returned (.bool (!inw n))) w) : Calls Try.prog 40 #[.int .i64 n] w R := by
  have HR : ∀ b, (!inw n) = b → R (.returned (.bool b)) w := by rintro b rfl; exact hR
  have HR := Lib.hid HR
  clear hR
  by_cases h : -4503599627370496 ≤ n
  · have t1 : decide (n < -4503599627370496) = false := by simp; omega
    go_enter Try.func40, Try.ntmps40
    go_wp2
    simp only [inw, h, decide_true, Bool.true_and, ← decide_not, Int.not_le]
  · have t1 : decide (n < -4503599627370496) = true := by simp; omega
    go_enter Try.func40, Try.ntmps40
    go_wp2
    simp [inw]
    omega
set_option maxRecDepth 100000 in
set_option maxHeartbeats 1000000 in
theorem pfar25_any (p : Pt) (w : World) {R : Ending → World → Prop} (hR : ∀ w', Grow w w' → R (.returned (.bool p.far)) w') : Calls Try.prog 47 #[.agg p.cells.toArray] w R := by
  obtain ⟨x, y⟩ := p
  have HR : ∀ b w', (Pt.far ⟨x, y⟩) = b → Grow w w' → R (.returned (.bool b)) w' := by rintro b w' rfl h; exact hR _ h
  have HR := Lib.hid HR
  clear hR
  have HI := Lib.hid fun W (R : Ending → World → Prop) hR => far25_any x W (R := R) hR
  have HJ := Lib.hid fun W (R : Ending → World → Prop) hR => far25_any y W (R := R) hR
  unfold Pt.cells
  dsimp only
  cases hq : inw x
  · rw [hq] at HI
    have hq := Lib.hid hq
    go_enter Try.func47, Try.ntmps47
    go_wp2_with (go_at_call 48; refine HI.out _ _ ?_)
    refine HR.out _ _ (by simp [Pt.far, hq.out]) ((Grow.refl w).al _)
  · rw [hq] at HI
    have hq := Lib.hid hq
    go_enter Try.func47, Try.ntmps47
    go_wp2_with (go_at_call 48; first | (refine HI.out _ _ ?_) | (refine HJ.out _ _ ?_))
    refine HR.out _ _ (by simp [Pt.far, hq.out]) ((Grow.refl w).al _)
set_option maxRecDepth 100000 in
set_option maxHeartbeats 1000000 in
theorem pfarL_any (p : Pt) (w : World) {R : Ending → World → Prop} (hR : ∀ w', Grow w w' → R (.returned (.bool p.far)) w') : Calls Try.prog 66 #[.agg p.cells.toArray] w R := by
  obtain ⟨x, y⟩ := p
  have HR : ∀ b w', (Pt.far ⟨x, y⟩) = b → Grow w w' → R (.returned (.bool b)) w' := by rintro b w' rfl h; exact hR _ h
  have HR := Lib.hid HR
  clear hR
  have HI := Lib.hid fun W (R : Ending → World → Prop) hR => farL_any x W (R := R) hR
  have HJ := Lib.hid fun W (R : Ending → World → Prop) hR => farL_any y W (R := R) hR
  unfold Pt.cells
  dsimp only
  cases hq : inw x
  · rw [hq] at HI
    have hq := Lib.hid hq
    go_enter Try.func66, Try.ntmps66
    go_wp2_with (go_at_call 40; refine HI.out _ _ ?_)
    refine HR.out _ _ (by simp [Pt.far, hq.out]) ((Grow.refl w).al _)
  · rw [hq] at HI
    have hq := Lib.hid hq
    go_enter Try.func66, Try.ntmps66
    go_wp2_with (go_at_call 40; first | (refine HI.out _ _ ?_) | (refine HJ.out _ _ ?_))
    refine HR.out _ _ (by simp [Pt.far, hq.out]) ((Grow.refl w).al _)

set_option maxRecDepth 100000 in
set_option maxHeartbeats 2000000 in
theorem index25_any (l : List Pt) (v : Value) (S : Nat → Prop) (w : World) (hb : Rd w S 2 v l.length (Pts l)) {R : Ending → World → Prop}
    (hR : ∀ w', Grow w w' → R (.returned (.int .i64 (fidx Pt.far l))) w') :
    Calls Try.prog 79 #[v, .func (.func 47) #[] #[]] w R := by
  have HR := Lib.hid hR
  clear hR
  have hb := hb.lt (by decide)
  obtain ⟨_, A, c, rfl, k1, k2, k3, k4⟩ := hb
  unfold maxLen at k2
  go_enter Try.func79, Try.ntmps79
  go_wp2
  go_loopw [8] (fun i wr => ∃ (k : Nat), k ≤ l.length ∧ i = .int .i64 k ∧ Hid (∀ q ∈ l.take k, q.far = false) ∧ Hid (Grow w wr)) (fun i _ => l.length - (intOf i).toNat)
  case atStart => exact ⟨0, Nat.zero_le _, rfl, fun q hq => by simp at hq, Grow.refl _⟩
  case round =>
    obtain ⟨k, hk, rfl, hall, hg⟩ := hrel
    by_cases hlt : k < l.length
    · obtain ⟨b, o, rfl, hS, hc⟩ := k4 (by omega)
      have e1 := flat_cells Pt.cells_len hg.out hS hc hlt
      clear hc k4 k3
      have NX : Hid ((l[k]'hlt).far = false → ∀ q ∈ l.take (k + 1), q.far = false) := take_all_succ hlt hall.out
      have FD : Hid ((l[k]'hlt).far = true → fidx Pt.far l = k) := fidx_some hlt hall.out
      have HI := Lib.hid fun W (R : Ending → World → Prop) hR => pfar25_any (l[k]'hlt) W (R := R) hR
      generalize (l[k]'hlt).far = bi at *
      generalize l[k]'hlt = x at *
      obtain ⟨x1, x2⟩ := x
      have c1 := e1 0 _ rfl
      have c2 := e1 1 _ rfl
      clear e1
      simp only [Nat.add_zero] at c1
      unfold Pt.cells at HI
      dsimp only at HI
      cases bi with
      | false =>
        go_wp2_with (go_at_call 47; refine HI.out _ _ ?_; intro w1 hg1; have HG1 := Lib.hid (hg.out.tr hg1); clear hg1 c1 c2)
        go_roundw
        case rel => exact ⟨k + 1, by omega, by go_num, NX.out (by first | rfl | trivial), HG1.out⟩
        case measure => simp [intOf]; omega
      | true =>
        go_wp2_with (go_at_call 47; refine HI.out _ _ ?_; intro w1 hg1; have HG1 := Lib.hid (hg.out.tr hg1); clear hg1 c1 c2)
        have h := HR.out _ HG1.out
        rw [FD.out (by first | rfl | trivial)] at h
        exact h
    · obtain rfl : k = l.length := by omega
      go_wp2
      have h := HR.out _ hg.out
      rw [fidx_none hall.out] at h
      exact h
set_option maxRecDepth 100000 in
set_option maxHeartbeats 2000000 in
theorem indexL_any (l : List Pt) (v : Value) (S : Nat → Prop) (w : World) (hb : Rd w S 2 v l.length (Pts l)) {R : Ending → World → Prop}
    (hR : ∀ w', Grow w w' → R (.returned (.int .i64 (fidx Pt.far l))) w') :
    Calls Try.prog 79 #[v, .func (.func 66) #[] #[]] w R := by
  have HR := Lib.hid hR
  clear hR
  have hb := hb.lt (by decide)
  obtain ⟨_, A, c, rfl, k1, k2, k3, k4⟩ := hb
  unfold maxLen at k2
  go_enter Try.func79, Try.ntmps79
  go_wp2
  go_loopw [8] (fun i wr => ∃ (k : Nat), k ≤ l.length ∧ i = .int .i64 k ∧ Hid (∀ q ∈ l.take k, q.far = false) ∧ Hid (Grow w wr)) (fun i _ => l.length - (intOf i).toNat)
  case atStart => exact ⟨0, Nat.zero_le _, rfl, fun q hq => by simp at hq, Grow.refl _⟩
  case round =>
    obtain ⟨k, hk, rfl, hall, hg⟩ := hrel
    by_cases hlt : k < l.length
    · obtain ⟨b, o, rfl, hS, hc⟩ := k4 (by omega)
      have e1 := flat_cells Pt.cells_len hg.out hS hc hlt
      clear hc k4 k3
      have NX : Hid ((l[k]'hlt).far = false → ∀ q ∈ l.take (k + 1), q.far = false) := take_all_succ hlt hall.out
      have FD : Hid ((l[k]'hlt).far = true → fidx Pt.far l = k) := fidx_some hlt hall.out
      have HI := Lib.hid fun W (R : Ending → World → Prop) hR => pfarL_any (l[k]'hlt) W (R := R) hR
      generalize (l[k]'hlt).far = bi at *
      generalize l[k]'hlt = x at *
      obtain ⟨x1, x2⟩ := x
      have c1 := e1 0 _ rfl
      have c2 := e1 1 _ rfl
      clear e1
      simp only [Nat.add_zero] at c1
      unfold Pt.cells at HI
      dsimp only at HI
      cases bi with
      | false =>
        go_wp2_with (go_at_call 66; refine HI.out _ _ ?_; intro w1 hg1; have HG1 := Lib.hid (hg.out.tr hg1); clear hg1 c1 c2)
        go_roundw
        case rel => exact ⟨k + 1, by omega, by go_num, NX.out (by first | rfl | trivial), HG1.out⟩
        case measure => simp [intOf]; omega
      | true =>
        go_wp2_with (go_at_call 66; refine HI.out _ _ ?_; intro w1 hg1; have HG1 := Lib.hid (hg.out.tr hg1); clear hg1 c1 c2)
        have h := HR.out _ HG1.out
        rw [FD.out (by first | rfl | trivial)] at h
        exact h
    · obtain rfl : k = l.length := by omega
      go_wp2
      have h := HR.out _ hg.out
      rw [fidx_none hall.out] at h
      exact h

theorem fidx_any (l : List Pt) : (0 ≤ fidx Pt.far l ∧ l.any Pt.far = true) ∨ (fidx Pt.far l = -1 ∧ l.any Pt.far = false) := by
  unfold fidx
  cases h : l.findIdx? Pt.far with
  | none =>
    right
    rw [List.findIdx?_eq_none_iff] at h
    refine ⟨rfl, ?_⟩
    rw [List.any_eq_false]
    intro p hp
    simpa using h p hp
  | some i =>
    left
    refine ⟨by show (0 : Int) ≤ i; omega, ?_⟩
    obtain ⟨hi, hx, _⟩ := List.findIdx?_eq_some_iff_getElem.1 h
    rw [List.any_eq_true]
    exact ⟨l[i], List.getElem_mem hi, hx⟩
set_option maxRecDepth 100000 in
set_option maxHeartbeats 1000000 in
theorem contains25_any (l : List Pt) (v : Value) (S : Nat → Prop) (w : World) (hb : Rd w S 2 v l.length (Pts l)) {R : Ending → World → Prop}
    (hR : ∀ w', Grow w w' → R (.returned (.bool (l.any Pt.far))) w') :
    Calls Try.prog 49 #[v, .func (.func 47) #[] #[]] w R := by
  have HR := Lib.hid hR
  have HX := Lib.hid fun (R : Ending → World → Prop) hR => index25_any l v S w hb (R := R) hR
  clear hR hb
  rcases fidx_any l with ⟨h1, h2⟩ | ⟨h1, h2⟩
  · rw [h2] at HR
    generalize fidx Pt.far l = i at *
    clear h2
    go_enter Try.func49, Try.ntmps49
    go_wp2_with (go_at_call 79; refine HX.out _ ?_; intro w1 hg1)
    exact HR.out _ hg1
  · rw [h2] at HR
    rw [h1] at HX
    clear h1 h2
    go_enter Try.func49, Try.ntmps49
    go_wp2_with (go_at_call 79; refine HX.out _ ?_; intro w1 hg1)
    exact HR.out _ hg1
set_option maxRecDepth 100000 in
set_option maxHeartbeats 1000000 in
theorem containsL_any (l : List Pt) (v : Value) (S : Nat → Prop) (w : World) (hb : Rd w S 2 v l.length (Pts l)) {R : Ending → World → Prop}
    (hR : ∀ w', Grow w w' → R (.returned (.bool (l.any Pt.far))) w') :
    Calls Try.prog 49 #[v, .func (.func 66) #[] #[]] w R := by
  have HR := Lib.hid hR
  have HX := Lib.hid fun (R : Ending → World → Prop) hR => indexL_any l v S w hb (R := R) hR
  clear hR hb
  rcases fidx_any l with ⟨h1, h2⟩ | ⟨h1, h2⟩
  · rw [h2] at HR
    generalize fidx Pt.far l = i at *
    clear h2
    go_enter Try.func49, Try.ntmps49
    go_wp2_with (go_at_call 79; refine HX.out _ ?_; intro w1 hg1)
    exact HR.out _ hg1
  · rw [h2] at HR
    rw [h1] at HX
    clear h1 h2
    go_enter Try.func49, Try.ntmps49
    go_wp2_with (go_at_call 79; refine HX.out _ ?_; intro w1 hg1)
    exact HR.out _ hg1

/-- P24.2: the error -/
def lineE (l : List Pt) (lo hi : Int) : Int := if hi < lo then 1 else if (!inw lo || !inw hi || l.any Pt.far) = true then 8 else 0

set_option maxRecDepth 100000 in
set_option maxHeartbeats 2000000 in
theorem rlineE_any (l : List Pt) (lo hi : Int) (v : Value) (S : Nat → Prop) (w : World) (hb : Rd w S 2 v l.length (Pts l)) {R : Ending → World → Prop}
    (hR : ∀ w', Grow w w' → R (.returned (.int .i64 (lineE l lo hi))) w') :
    Calls Try.prog 19 #[v, .int .i64 lo, .int .i64 hi] w R := by
  have HR1 : ∀ e, lineE l lo hi = e → ∀ w', Grow w w' → R (.returned (.int .i64 e)) w' := by rintro e rfl; exact hR
  have HR := Lib.hid HR1
  clear hR HR1
  have hb := hb.lt (by decide)
  obtain ⟨_, A, c, rfl, k1, k2, k3, k4⟩ := hb
  unfold maxLen at k2
  obtain ⟨q, hq⟩ : ∃ q, decide (hi < lo) = q := ⟨_, rfl⟩
  cases q with
  | true =>
    have LE : Hid (lineE l lo hi = 1) := by show _ = _; unfold lineE; rw [if_pos (of_decide_eq_true hq)]
    go_enter Try.func19, Try.ntmps19
    go_wp2
    exact HR.out _ LE.out _ (Grow.refl _)
  | false =>
    have LE : Hid (lineE l lo hi = if (!inw lo || !inw hi || l.any Pt.far) = true then 8 else 0) := by show _ = _; unfold lineE; rw [if_neg (of_decide_eq_false hq)]
    have F1 := Lib.hid fun W (R : Ending → World → Prop) hR => far_any lo W (R := R) hR
    have F2 := Lib.hid fun W (R : Ending → World → Prop) hR => far_any hi W (R := R) hR
    go_enter Try.func19, Try.ntmps19
    go_wp2
    clear hq
    go_loopw [7] (fun i wr => ∃ (k : Nat), k ≤ l.length ∧ i = .int .i64 k ∧ Hid (∀ q ∈ l.take k, q.far = false) ∧ Hid (Grow w wr)) (fun i _ => l.length - (intOf i).toNat)
    case atStart => exact ⟨0, Nat.zero_le _, rfl, fun q hq => by simp at hq, Grow.refl _⟩
    case round =>
      obtain ⟨k, hk, rfl, hall, hg⟩ := hrel
      by_cases hlt : k < l.length
      · obtain ⟨b, o, rfl, hS, hc⟩ := k4 (by omega)
        have e1 := flat_cells Pt.cells_len hg.out hS hc hlt
        clear hc k4 k3
        have NX : Hid ((l[k]'hlt).far = false → ∀ q ∈ l.take (k + 1), q.far = false) := take_all_succ hlt hall.out
        have FD : Hid ((l[k]'hlt).far = true → l.any Pt.far = true) := fun h => List.any_eq_true.2 ⟨_, List.getElem_mem hlt, h⟩
        have HI := Lib.hid fun W (R : Ending → World → Prop) hR => pfar_any (l[k]'hlt) W (R := R) hR
        generalize (l[k]'hlt).far = bi at *
        generalize l[k]'hlt = x at *
        obtain ⟨x1, x2⟩ := x
        have c1 := e1 0 _ rfl
        have c2 := e1 1 _ rfl
        clear e1
        simp only [Nat.add_zero] at c1
        unfold Pt.cells at HI
        dsimp only at HI
        cases bi with
        | false =>
          go_wp2_with fail
          go_at_call 36; refine HI.out _ _ ?_; intro w1 hg1; have HG1 := Lib.hid (hg.out.tr hg1); clear hg1 c1 c2
          go_wp2_with fail
          go_roundw
          case rel => exact ⟨k + 1, by omega, by go_num, NX.out (by first | rfl | trivial), HG1.out⟩
          case measure => simp [intOf]; omega
        | true =>
          go_wp2_with fail
          go_at_call 36; refine HI.out _ _ ?_; intro w1 hg1; have HG1 := Lib.hid (hg.out.tr hg1); clear hg1 c1 c2
          go_wp2_with fail
          exact HR.out _ (by rw [LE.out, FD.out (by first | rfl | trivial)]; simp) _ HG1.out
      · obtain rfl : k = l.length := by omega
        have AF : l.any Pt.far = false := by
          rw [List.any_eq_false]
          intro p hp
          have := hall.out p (by rw [List.take_length]; exact hp)
          simp [this]
        rw [AF] at LE
        clear AF k4
        cases hlo : inw lo with
        | false =>
          rw [hlo] at LE F1
          clear hlo
          go_wp2_with (go_at_call 43; refine F1.out _ _ ?_)
          exact HR.out _ (by rw [LE.out]; simp) _ hg.out
        | true =>
          cases hhi : inw hi with
          | false =>
            rw [hlo, hhi] at LE
            rw [hlo] at F1
            rw [hhi] at F2
            clear hlo hhi
            go_wp2_with (go_at_call 43; first | refine F1.out _ _ ?_ | refine F2.out _ _ ?_)
            exact HR.out _ (by rw [LE.out]; simp) _ hg.out
          | true =>
            rw [hlo, hhi] at LE
            rw [hlo] at F1
            rw [hhi] at F2
            clear hlo hhi
            go_wp2_with (go_at_call 43; first | refine F1.out _ _ ?_ | refine F2.out _ _ ?_)
            exact HR.out _ (by rw [LE.out]; simp) _ hg.out
end Go.Proofs.Ytjcgkhcbdbbdkaa
