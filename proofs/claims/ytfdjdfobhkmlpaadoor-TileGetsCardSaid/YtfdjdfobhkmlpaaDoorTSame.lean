/-
  tile.Same, and the reference's.
-/
import Derived.Test.YtfdjdfobhkmlpaaDoorChecked
import Derived.Test.YtfdjdfobhkmlpaaDoorLyR
import Derived.Test.YtfdjdfobhkmlpaaDoorPSame
namespace Go.Proofs.YtfdjdfobhkmlpaaDoor
open Go.RowKit B

def AnyF (_ : Atr) : Prop := True
/-- the slices that a feature holds -/
def FtR.fm (x : FtR) : Prop := ∃ A n c B m d, x.f.pv = .slice A n c ∧ x.f.av = .slice B m d
def LyR.fm (x : LyR) : Prop := ∃ A n c, x.fv = .slice A n c
theorem Rd.form {w : World} {S : Nat → Prop} {size n : Nat} {v : Value} {xs : List Value} (h : Rd w S size v n xs) : ∃ A n c, v = .slice A n c := by
  obtain ⟨_, A, c, h, _⟩ := h
  exact ⟨A, n, c, h⟩
theorem FtR.rd.fm {x : FtR} {w : World} {S : Nat → Prop} (h : x.rd w S) : x.fm := by
  obtain ⟨A, n, c, h1⟩ := h.1.form
  obtain ⟨B, m, d, h2⟩ := h.2.2.form
  exact ⟨A, n, c, B, m, d, h1, h2⟩
theorem LyR.rd.fm {x : LyR} {w : World} {S : Nat → Prop} (h : x.rd w S) : x.fm := h.1.form
/- slices.EqualFunc over rows of structs -/
set_option maxRecDepth 100000 in
set_option maxHeartbeats 4000000 in
theorem eqAtr_any (a b : Value) (A B : List Atr) (S T : Nat → Prop) (w : World) (ha : Rd w S 4 a A.length (Atrs A)) (hb : Rd w T 4 b B.length (Atrs B)) (hfA : ∀ x ∈ A, AnyF x) (hfB : ∀ y ∈ B, AnyF y)
    (hF : ∀ x ∈ A, ∀ y ∈ B, ∀ w1, Grow w w1 → ∀ R : Ending → World → Prop, (∀ (c : Bool) w', (c = true ↔ x.pl = y.pl) → Grow w1 w' → R (.returned (.bool c)) w') → Calls Tryd.prog 47 #[.agg x.cells.toArray, .agg y.cells.toArray] w1 R)
    {R : Ending → World → Prop} (hR : ∀ (c : Bool) w', (c = true ↔ A.map Atr.pl = B.map Atr.pl) → Grow w w' → R (.returned (.bool c)) w') :
    Calls Tryd.prog 50 #[a, b, .func (.func 47) #[] #[]] w R := by
  have ha := ha.lt (by decide)
  have hb := hb.lt (by decide)
  have HF := Lib.hid hF
  have HR := Lib.hid hR
  have HA := Lib.hid hfA
  have HB := Lib.hid hfB
  clear hR hF hfA hfB
  obtain ⟨_, A0, c, rfl, h1, h2, h3, h4⟩ := ha
  obtain ⟨_, B0, d, rfl, k1, k2, k3, k4⟩ := hb
  unfold maxLen at h2 k2
  by_cases hl : A.length = B.length
  · have heq : ((A.length : Int) != B.length) = false := by simp; omega
    have hl := Lib.hid hl
    go_enter Tryd.func50, Tryd.ntmps50
    go_wp2
    clear heq
    go_loopw [17] (fun i wr => ∃ k : Nat, k ≤ A.length ∧ i = .int .i64 k ∧ Hid ((A.take k).map Atr.pl = (B.take k).map Atr.pl) ∧ Hid (Grow w wr)) (fun i _ => A.length - (intOf i).toNat)
    case atStart => exact ⟨0, Nat.zero_le _, rfl, rfl, Grow.refl _⟩
    case round =>
      obtain ⟨k, hk, rfl, ht, hg⟩ := hrel
      by_cases hlt : k < A.length
      · have hlt2 : k < B.length := by rw [← hl.out]; exact hlt
        obtain ⟨b1, o1, rfl, hb1, hc1⟩ := h4 (by omega)
        obtain ⟨b2, o2, rfl, hb2, hc2⟩ := k4 (by omega)
        have e1 := flat_cells Atr.cells_len hg.out hb1 hc1 hlt
        have e2 := fun (o : Obj) => flat_cells Atr.cells_len (hg.out.al o) hb2 hc2 hlt2
        have YES : Hid (A[k].pl = B[k].pl → (A.take (k + 1)).map Atr.pl = (B.take (k + 1)).map Atr.pl) := fun h => take_pl hlt hlt2 ht.out h
        have NO : Hid (¬ A[k].pl = B[k].pl → ¬ A.map Atr.pl = B.map Atr.pl) := fun h h2 => h (pl_at hlt hlt2 h2)
        have F1 := Lib.hid (HF.out A[k] (List.getElem_mem hlt) B[k] (List.getElem_mem hlt2))
        have fx := HA.out A[k] (List.getElem_mem hlt)
        have fy := HB.out B[k] (List.getElem_mem hlt2)
        clear hc1 hc2 h4 k4 h3 k3 HF ht HA HB
        generalize A[k] = x at *
        generalize B[k] = y at *
        clear fx fy
        have c0 := e1 0 _ rfl; have c1 := e1 1 _ rfl; have c2 := e1 2 _ rfl; have c3 := e1 3 _ rfl; have d0 := fun o => e2 o 0 _ rfl; have d1 := fun o => e2 o 1 _ rfl; have d2 := fun o => e2 o 2 _ rfl; have d3 := fun o => e2 o 3 _ rfl
        simp only [Nat.add_zero] at c0 d0
        clear e1 e2
        unfold Atr.cells at F1
        try dsimp only at F1
        go_wp2_with fail
        go_at_call 47
        refine F1.out _ (((hg.out).al _).al _) _ ?_
        intro cc w1 hc hg1
        have G1 := Lib.hid ((((hg.out).al _).al _).tr hg1)
        clear hg1 F1
        cases cc with
        | false =>
          have N2 := Lib.hid (NO.out fun h => by have := hc.2 h; cases this)
          clear hc YES NO
          go_wp2
          exact HR.out false _ ⟨fun h => (by cases h), fun h => absurd h N2.out⟩ G1.out
        | true =>
          have Y2 := Lib.hid (YES.out (hc.1 rfl))
          clear hc YES NO
          go_wp2
          go_roundw
          case rel => exact ⟨k + 1, by omega, by go_num, Y2.out, G1.out⟩
          case measure => simp [intOf]; omega
      · obtain rfl : k = A.length := by omega
        have e : A.map Atr.pl = B.map Atr.pl := by
          have := ht.out
          rw [List.take_length] at this
          rw [this, List.take_of_length_le (by rw [hl.out]; exact Nat.le_refl _)]
        have h := Lib.hid (HR.out true)
        clear HF HA HB
        go_wp2
        exact h.out _ ⟨fun _ => e, fun _ => by first | rfl | trivial⟩ hg.out
  · have heq : ((A.length : Int) != B.length) = true := by simp; omega
    have e : ¬ A.map Atr.pl = B.map Atr.pl := fun h => hl (by have := congrArg List.length h; rwa [List.length_map, List.length_map] at this)
    clear HF HA HB
    go_enter Tryd.func50, Tryd.ntmps50
    go_wp2
    exact HR.out false _ ⟨fun h => (by cases h), fun h => absurd h e⟩ (Grow.refl _)
set_option maxRecDepth 100000 in
set_option maxHeartbeats 4000000 in
theorem eqFt_any (a b : Value) (A B : List FtR) (S T : Nat → Prop) (w : World) (ha : Rd w S 5 a A.length (Fts A)) (hb : Rd w T 5 b B.length (Fts B)) (hfA : ∀ x ∈ A, FtR.fm x) (hfB : ∀ y ∈ B, FtR.fm y)
    (hF : ∀ x ∈ A, ∀ y ∈ B, ∀ w1, Grow w w1 → ∀ R : Ending → World → Prop, (∀ (c : Bool) w', (c = true ↔ x.pl = y.pl) → Grow w1 w' → R (.returned (.bool c)) w') → Calls Tryd.prog 24 #[.agg x.cells.toArray, .agg y.cells.toArray] w1 R)
    {R : Ending → World → Prop} (hR : ∀ (c : Bool) w', (c = true ↔ A.map FtR.pl = B.map FtR.pl) → Grow w w' → R (.returned (.bool c)) w') :
    Calls Tryd.prog 23 #[a, b, .func (.func 24) #[] #[]] w R := by
  have ha := ha.lt (by decide)
  have hb := hb.lt (by decide)
  have HF := Lib.hid hF
  have HR := Lib.hid hR
  have HA := Lib.hid hfA
  have HB := Lib.hid hfB
  clear hR hF hfA hfB
  obtain ⟨_, A0, c, rfl, h1, h2, h3, h4⟩ := ha
  obtain ⟨_, B0, d, rfl, k1, k2, k3, k4⟩ := hb
  unfold maxLen at h2 k2
  by_cases hl : A.length = B.length
  · have heq : ((A.length : Int) != B.length) = false := by simp; omega
    have hl := Lib.hid hl
    go_enter Tryd.func23, Tryd.ntmps23
    go_wp2
    clear heq
    go_loopw [17] (fun i wr => ∃ k : Nat, k ≤ A.length ∧ i = .int .i64 k ∧ Hid ((A.take k).map FtR.pl = (B.take k).map FtR.pl) ∧ Hid (Grow w wr)) (fun i _ => A.length - (intOf i).toNat)
    case atStart => exact ⟨0, Nat.zero_le _, rfl, rfl, Grow.refl _⟩
    case round =>
      obtain ⟨k, hk, rfl, ht, hg⟩ := hrel
      by_cases hlt : k < A.length
      · have hlt2 : k < B.length := by rw [← hl.out]; exact hlt
        obtain ⟨b1, o1, rfl, hb1, hc1⟩ := h4 (by omega)
        obtain ⟨b2, o2, rfl, hb2, hc2⟩ := k4 (by omega)
        have e1 := flat_cells FtR.cells_len hg.out hb1 hc1 hlt
        have e2 := fun (o : Obj) => flat_cells FtR.cells_len (hg.out.al o) hb2 hc2 hlt2
        have YES : Hid (A[k].pl = B[k].pl → (A.take (k + 1)).map FtR.pl = (B.take (k + 1)).map FtR.pl) := fun h => take_plF hlt hlt2 ht.out h
        have NO : Hid (¬ A[k].pl = B[k].pl → ¬ A.map FtR.pl = B.map FtR.pl) := fun h h2 => h (plF_at hlt hlt2 h2)
        have F1 := Lib.hid (HF.out A[k] (List.getElem_mem hlt) B[k] (List.getElem_mem hlt2))
        have fx := HA.out A[k] (List.getElem_mem hlt)
        have fy := HB.out B[k] (List.getElem_mem hlt2)
        clear hc1 hc2 h4 k4 h3 k3 HF ht HA HB
        generalize A[k] = x at *
        generalize B[k] = y at *
        obtain ⟨⟨xh, xi, xt, xp, xv⟩, xA, xB⟩ := x; obtain ⟨⟨yh, yi, yt, yp, yv⟩, yA, yB⟩ := y; obtain ⟨X1, X2, X3, X4, X5, X6, hx1, hx2⟩ := fx; obtain ⟨Y1, Y2, Y3, Y4, Y5, Y6, hy1, hy2⟩ := fy; dsimp only at hx1 hx2 hy1 hy2; subst hx1 hx2 hy1 hy2
        have c0 := e1 0 _ rfl; have c1 := e1 1 _ rfl; have c2 := e1 2 _ rfl; have c3 := e1 3 _ rfl; have c4 := e1 4 _ rfl; have d0 := fun o => e2 o 0 _ rfl; have d1 := fun o => e2 o 1 _ rfl; have d2 := fun o => e2 o 2 _ rfl; have d3 := fun o => e2 o 3 _ rfl; have d4 := fun o => e2 o 4 _ rfl
        simp only [Nat.add_zero] at c0 d0
        clear e1 e2
        unfold FtR.cells Ft.cells at F1
        try dsimp only at F1
        go_wp2_with fail
        go_at_call 24
        refine F1.out _ (((hg.out).al _).al _) _ ?_
        intro cc w1 hc hg1
        have G1 := Lib.hid ((((hg.out).al _).al _).tr hg1)
        clear hg1 F1
        cases cc with
        | false =>
          have N2 := Lib.hid (NO.out fun h => by have := hc.2 h; cases this)
          clear hc YES NO
          go_wp2
          exact HR.out false _ ⟨fun h => (by cases h), fun h => absurd h N2.out⟩ G1.out
        | true =>
          have Y2 := Lib.hid (YES.out (hc.1 rfl))
          clear hc YES NO
          go_wp2
          go_roundw
          case rel => exact ⟨k + 1, by omega, by go_num, Y2.out, G1.out⟩
          case measure => simp [intOf]; omega
      · obtain rfl : k = A.length := by omega
        have e : A.map FtR.pl = B.map FtR.pl := by
          have := ht.out
          rw [List.take_length] at this
          rw [this, List.take_of_length_le (by rw [hl.out]; exact Nat.le_refl _)]
        have h := Lib.hid (HR.out true)
        clear HF HA HB
        go_wp2
        exact h.out _ ⟨fun _ => e, fun _ => by first | rfl | trivial⟩ hg.out
  · have heq : ((A.length : Int) != B.length) = true := by simp; omega
    have e : ¬ A.map FtR.pl = B.map FtR.pl := fun h => hl (by have := congrArg List.length h; rwa [List.length_map, List.length_map] at this)
    clear HF HA HB
    go_enter Tryd.func23, Tryd.ntmps23
    go_wp2
    exact HR.out false _ ⟨fun h => (by cases h), fun h => absurd h e⟩ (Grow.refl _)
set_option maxRecDepth 100000 in
set_option maxHeartbeats 4000000 in
theorem eqLy_any (a b : Value) (A B : List LyR) (S T : Nat → Prop) (w : World) (ha : Rd w S 3 a A.length (Lys A)) (hb : Rd w T 3 b B.length (Lys B)) (hfA : ∀ x ∈ A, LyR.fm x) (hfB : ∀ y ∈ B, LyR.fm y)
    (hF : ∀ x ∈ A, ∀ y ∈ B, ∀ w1, Grow w w1 → ∀ R : Ending → World → Prop, (∀ (c : Bool) w', (c = true ↔ x.pl = y.pl) → Grow w1 w' → R (.returned (.bool c)) w') → Calls Tryd.prog 22 #[.agg x.cells.toArray, .agg y.cells.toArray] w1 R)
    {R : Ending → World → Prop} (hR : ∀ (c : Bool) w', (c = true ↔ A.map LyR.pl = B.map LyR.pl) → Grow w w' → R (.returned (.bool c)) w') :
    Calls Tryd.prog 21 #[a, b, .func (.func 22) #[] #[]] w R := by
  have ha := ha.lt (by decide)
  have hb := hb.lt (by decide)
  have HF := Lib.hid hF
  have HR := Lib.hid hR
  have HA := Lib.hid hfA
  have HB := Lib.hid hfB
  clear hR hF hfA hfB
  obtain ⟨_, A0, c, rfl, h1, h2, h3, h4⟩ := ha
  obtain ⟨_, B0, d, rfl, k1, k2, k3, k4⟩ := hb
  unfold maxLen at h2 k2
  by_cases hl : A.length = B.length
  · have heq : ((A.length : Int) != B.length) = false := by simp; omega
    have hl := Lib.hid hl
    go_enter Tryd.func21, Tryd.ntmps21
    go_wp2
    clear heq
    go_loopw [17] (fun i wr => ∃ k : Nat, k ≤ A.length ∧ i = .int .i64 k ∧ Hid ((A.take k).map LyR.pl = (B.take k).map LyR.pl) ∧ Hid (Grow w wr)) (fun i _ => A.length - (intOf i).toNat)
    case atStart => exact ⟨0, Nat.zero_le _, rfl, rfl, Grow.refl _⟩
    case round =>
      obtain ⟨k, hk, rfl, ht, hg⟩ := hrel
      by_cases hlt : k < A.length
      · have hlt2 : k < B.length := by rw [← hl.out]; exact hlt
        obtain ⟨b1, o1, rfl, hb1, hc1⟩ := h4 (by omega)
        obtain ⟨b2, o2, rfl, hb2, hc2⟩ := k4 (by omega)
        have e1 := flat_cells LyR.cells_len hg.out hb1 hc1 hlt
        have e2 := fun (o : Obj) => flat_cells LyR.cells_len (hg.out.al o) hb2 hc2 hlt2
        have YES : Hid (A[k].pl = B[k].pl → (A.take (k + 1)).map LyR.pl = (B.take (k + 1)).map LyR.pl) := fun h => take_plL hlt hlt2 ht.out h
        have NO : Hid (¬ A[k].pl = B[k].pl → ¬ A.map LyR.pl = B.map LyR.pl) := fun h h2 => h (plL_at hlt hlt2 h2)
        have F1 := Lib.hid (HF.out A[k] (List.getElem_mem hlt) B[k] (List.getElem_mem hlt2))
        have fx := HA.out A[k] (List.getElem_mem hlt)
        have fy := HB.out B[k] (List.getElem_mem hlt2)
        clear hc1 hc2 h4 k4 h3 k3 HF ht HA HB
        generalize A[k] = x at *
        generalize B[k] = y at *
        obtain ⟨xn, xe, xv, xF⟩ := x; obtain ⟨yn, ye, yv, yF⟩ := y; obtain ⟨X1, X2, X3, hx1⟩ := fx; obtain ⟨Y1, Y2, Y3, hy1⟩ := fy; dsimp only at hx1 hy1; subst hx1 hy1
        have c0 := e1 0 _ rfl; have c1 := e1 1 _ rfl; have c2 := e1 2 _ rfl; have d0 := fun o => e2 o 0 _ rfl; have d1 := fun o => e2 o 1 _ rfl; have d2 := fun o => e2 o 2 _ rfl
        simp only [Nat.add_zero] at c0 d0
        clear e1 e2
        unfold LyR.cells at F1
        try dsimp only at F1
        go_wp2_with fail
        go_at_call 22
        refine F1.out _ (((hg.out).al _).al _) _ ?_
        intro cc w1 hc hg1
        have G1 := Lib.hid ((((hg.out).al _).al _).tr hg1)
        clear hg1 F1
        cases cc with
        | false =>
          have N2 := Lib.hid (NO.out fun h => by have := hc.2 h; cases this)
          clear hc YES NO
          go_wp2
          exact HR.out false _ ⟨fun h => (by cases h), fun h => absurd h N2.out⟩ G1.out
        | true =>
          have Y2 := Lib.hid (YES.out (hc.1 rfl))
          clear hc YES NO
          go_wp2
          go_roundw
          case rel => exact ⟨k + 1, by omega, by go_num, Y2.out, G1.out⟩
          case measure => simp [intOf]; omega
      · obtain rfl : k = A.length := by omega
        have e : A.map LyR.pl = B.map LyR.pl := by
          have := ht.out
          rw [List.take_length] at this
          rw [this, List.take_of_length_le (by rw [hl.out]; exact Nat.le_refl _)]
        have h := Lib.hid (HR.out true)
        clear HF HA HB
        go_wp2
        exact h.out _ ⟨fun _ => e, fun _ => by first | rfl | trivial⟩ hg.out
  · have heq : ((A.length : Int) != B.length) = true := by simp; omega
    have e : ¬ A.map LyR.pl = B.map LyR.pl := fun h => hl (by have := congrArg List.length h; rwa [List.length_map, List.length_map] at this)
    clear HF HA HB
    go_enter Tryd.func21, Tryd.ntmps21
    go_wp2
    exact HR.out false _ ⟨fun h => (by cases h), fun h => absurd h e⟩ (Grow.refl _)

set_option maxRecDepth 100000 in
set_option maxHeartbeats 1000000 in
theorem sameAtr_any (x y : Atr) (w : World) {R : Ending → World → Prop} (hR : ∀ (c : Bool) w', (c = true ↔ x.pl = y.pl) → Grow w w' → R (.returned (.bool c)) w') :
    Calls Tryd.prog 47 #[.agg x.cells.toArray, .agg y.cells.toArray] w R := by
  have HR := Lib.hid hR
  clear hR
  have PL := Lib.hid (pl_iff (a := x) (b := y))
  obtain ⟨xk, xv, xt, xb⟩ := x
  obtain ⟨yk, yv, yt, yb⟩ := y
  have SV := Lib.hid fun W (R : Ending → World → Prop) hR => same_any ⟨xv, xt, xb⟩ ⟨yv, yt, yb⟩ W (R := R) hR
  unfold Val.v at SV
  unfold Atr.cells
  dsimp only at *
  have G0 := Lib.hid (((Grow.refl w).al (.cells #[.string xk, .int .i64 xv, .string xt, .int .u64 xb] 56)).al (.cells #[.string yk, .int .i64 yv, .string yt, .int .u64 yb] 56))
  by_cases hkey : xk.toList = yk.toList
  · have e0 : xk = yk := ba_inj hkey
    subst e0
    clear hkey
    go_enter Tryd.func47, Tryd.ntmps47
    go_wp2_with fail
    go_at_call 48
    refine SV.out _ _ ?_
    intro w1 hg1
    have G1 := Lib.hid (G0.out.tr hg1)
    clear hg1
    by_cases hv : plainV ⟨xv, xt, xb⟩ = plainV ⟨yv, yt, yb⟩
    · rw [decide_eq_true hv]
      have FIN := Lib.hid (HR.out true _ ⟨fun _ => PL.out.2 ⟨by first | rfl | trivial, hv⟩, fun _ => rfl⟩ G1.out)
      clear hv PL HR SV
      go_wp2
      exact FIN.out
    · rw [decide_eq_false hv]
      have FIN := Lib.hid (HR.out false _ ⟨fun h => (by cases h), fun h => absurd (PL.out.1 h).2 hv⟩ G1.out)
      clear hv PL HR SV
      go_wp2
      exact FIN.out
  · have hk2 : (xk.toList == yk.toList) = false := by rw [beq_eq_false_iff_ne]; exact hkey
    have FIN := Lib.hid (HR.out false _ ⟨fun h => (by cases h), fun h => absurd (congrArg _ (PL.out.1 h).1) hkey⟩ G0.out)
    clear SV PL HR
    go_enter Tryd.func47, Tryd.ntmps47
    go_wp2
    exact FIN.out

set_option maxRecDepth 100000 in
set_option maxHeartbeats 2000000 in
theorem sameFt_any (x y : FtR) (S T : Nat → Prop) (w : World) (hx : x.rd w S) (hy : y.rd w T) {R : Ending → World → Prop} (hR : ∀ (c : Bool) w', (c = true ↔ x.pl = y.pl) → Grow w w' → R (.returned (.bool c)) w') :
    Calls Tryd.prog 24 #[.agg x.cells.toArray, .agg y.cells.toArray] w R := by
  have HR := Lib.hid hR
  clear hR
  have PL := Lib.hid (FtR.pl_iff (x := x) (y := y))
  obtain ⟨⟨xh, xi, xt, xp, xv⟩, xA, xB⟩ := x
  obtain ⟨⟨yh, yi, yt, yp, yv⟩, yA, yB⟩ := y
  obtain ⟨ra1, ra2, ra3⟩ := hx
  obtain ⟨rb1, rb2, rb3⟩ := hy
  dsimp only at ra1 ra2 ra3 rb1 rb2 rb3
  obtain ⟨X1, X2, X3, hx1⟩ := ra1.form
  obtain ⟨X4, X5, X6, hx2⟩ := ra3.form
  obtain ⟨Y1, Y2, Y3, hy1⟩ := rb1.form
  obtain ⟨Y4, Y5, Y6, hy2⟩ := rb3.form
  subst hx1 hx2 hy1 hy2
  have SP := Lib.hid fun W (hg : Grow w W) (R : Ending → World → Prop) hR => pathSame_any _ _ xA yA _ _ _ _ W (ra1.gr2 (by decide) hg) (fun r hr => (ra2 r hr).gr2 (by decide) hg) (rb1.gr2 (by decide) hg) (fun r hr => (rb2 r hr).gr2 (by decide) hg) (R := R) hR
  have SA := Lib.hid fun W (hg : Grow w W) (R : Ending → World → Prop) hR => eqAtr_any _ _ xB yB _ _ W (ra3.gr2 (by decide) hg) (rb3.gr2 (by decide) hg) (fun _ _ => trivial) (fun _ _ => trivial) (fun x _ y _ w1 _ R hR => sameAtr_any x y w1 hR) (R := R) hR
  clear ra1 ra2 ra3 rb1 rb2 rb3
  unfold FtR.cells Ft.cells
  dsimp only at *
  have G0 := Lib.hid (((Grow.refl w).al (.cells #[.bool xh, .int .u64 xi, .int .i64 xt, .slice X1 X2 X3, .slice X4 X5 X6] 53)).al (.cells #[.bool yh, .int .u64 yi, .int .i64 yt, .slice Y1 Y2 Y3, .slice Y4 Y5 Y6] 53))
  have NO : Hid (¬ (xh = yh ∧ xi = yi ∧ xt = yt ∧ xA.map PRow.l = yA.map PRow.l ∧ xB.map Atr.pl = yB.map Atr.pl) → ∀ w', Grow w w' → R (.returned (.bool false)) w') := fun h w' hg => HR.out false w' ⟨fun h2 => (by cases h2), fun h2 => absurd (PL.out.1 h2) h⟩ hg
  have YS : Hid ((xh = yh ∧ xi = yi ∧ xt = yt ∧ xA.map PRow.l = yA.map PRow.l ∧ xB.map Atr.pl = yB.map Atr.pl) → ∀ w', Grow w w' → R (.returned (.bool true)) w') := fun h w' hg => HR.out true w' ⟨fun _ => PL.out.2 h, fun _ => rfl⟩ hg
  clear PL HR
  cases th : (xh == yh) with
  | false =>
    have tn : ¬ xh = yh := by rintro rfl; simp at th
    have FIN := Lib.hid (NO.out fun h => tn h.1)
    clear NO YS SP SA tn
    go_enter Tryd.func24, Tryd.ntmps24
    go_wp2
    exact FIN.out _ G0.out
  | true =>
    have eh : xh = yh := by simpa using th
    subst eh
    cases ti : ((xi : Int) == (yi : Int)) with
    | false =>
      have tn : ¬ xi = yi := by rintro rfl; simp at ti
      have FIN := Lib.hid (NO.out fun h => tn h.2.1)
      clear NO YS SP SA tn
      go_enter Tryd.func24, Tryd.ntmps24
      go_wp2
      exact FIN.out _ G0.out
    | true =>
      have ei0 : (xi : Int) = yi := by simpa using ti
      have ei : xi = yi := by omega
      clear ei0
      subst ei
      cases tt : (xt == yt) with
      | false =>
        have tn : ¬ xt = yt := by rintro rfl; simp at tt
        have FIN := Lib.hid (NO.out fun h => tn h.2.2.1)
        clear NO YS SP SA tn
        go_enter Tryd.func24, Tryd.ntmps24
        go_wp2
        exact FIN.out _ G0.out
      | true =>
        have et : xt = yt := by simpa using tt
        subst et
        clear th ti tt
        go_enter Tryd.func24, Tryd.ntmps24
        go_wp2_with fail
        go_at_call 49
        refine SP.out _ G0.out _ ?_
        intro w1 hg1
        have G1 := Lib.hid (G0.out.tr hg1)
        have BX := Lib.hid ((BoxH.laid #[.bool xh, .int .u64 xi, .int .i64 xt, .slice X1 X2 X3, .slice X4 X5 X6] 53 (Grow.refl w)).tr (((Grow.refl _).al (.cells #[.bool xh, .int .u64 xi, .int .i64 xt, .slice Y1 Y2 Y3, .slice Y4 Y5 Y6] 53)).tr hg1))
        have BY := Lib.hid ((BoxH.laid #[.bool xh, .int .u64 xi, .int .i64 xt, .slice Y1 Y2 Y3, .slice Y4 Y5 Y6] 53 ((Grow.refl w).al (.cells #[.bool xh, .int .u64 xi, .int .i64 xt, .slice X1 X2 X3, .slice X4 X5 X6] 53))).tr hg1)
        have x4 := BX.out.cell 4
        have y4 := BY.out.cell 4
        rw [World.size_alloc] at y4
        clear hg1 SP
        by_cases hp : xA.map PRow.l = yA.map PRow.l
        · rw [decide_eq_true hp]
          go_wp2_with fail
          go_at_call 50
          refine SA.out _ G1.out _ ?_
          intro cc w2 hc hg2
          have G2 := Lib.hid (G1.out.tr hg2)
          clear hg2 SA x4 y4 BX BY
          cases cc with
          | true =>
            have FIN := Lib.hid (YS.out ⟨by first | rfl | trivial, by first | rfl | trivial, by first | rfl | trivial, hp, hc.1 rfl⟩)
            clear hp hc NO YS
            go_wp2
            exact FIN.out _ G2.out
          | false =>
            have FIN := Lib.hid (NO.out fun h => by have := hc.2 h.2.2.2.2; cases this)
            clear hp hc NO YS
            go_wp2
            exact FIN.out _ G2.out
        · rw [decide_eq_false hp]
          have FIN := Lib.hid (NO.out fun h => hp h.2.2.2.1)
          clear hp NO YS SA
          go_wp2
          exact FIN.out _ G1.out

set_option maxRecDepth 100000 in
set_option maxHeartbeats 2000000 in
theorem sameLy_any (x y : LyR) (S T : Nat → Prop) (w : World) (hx : x.rd w S) (hy : y.rd w T) {R : Ending → World → Prop} (hR : ∀ (c : Bool) w', (c = true ↔ x.pl = y.pl) → Grow w w' → R (.returned (.bool c)) w') :
    Calls Tryd.prog 22 #[.agg x.cells.toArray, .agg y.cells.toArray] w R := by
  have HR := Lib.hid hR
  clear hR
  have PL := Lib.hid (LyR.pl_iff (x := x) (y := y))
  obtain ⟨xn, xe, xv, xF⟩ := x
  obtain ⟨yn, ye, yv, yF⟩ := y
  obtain ⟨ra, rA⟩ := hx
  obtain ⟨rb, rB⟩ := hy
  dsimp only at ra rA rb rB
  obtain ⟨X1, X2, X3, hx1⟩ := ra.form
  obtain ⟨Y1, Y2, Y3, hy1⟩ := rb.form
  subst hx1 hy1
  have SA := Lib.hid fun W (hg : Grow w W) (R : Ending → World → Prop) hR => eqFt_any _ _ xF yF _ _ W (ra.gr2 (by decide) hg) (rb.gr2 (by decide) hg) (fun x hx => (rA x hx).fm) (fun y hy => (rB y hy).fm) (fun x hx y hy w1 hg1 R hR => sameFt_any x y _ _ w1 ((rA x hx).gr (hg.tr hg1)) ((rB y hy).gr (hg.tr hg1)) hR) (R := R) hR
  clear ra rA rb rB
  unfold LyR.cells
  dsimp only at *
  have G0 := Lib.hid (((Grow.refl w).al (.cells #[.string xn, .int .i64 xe, .slice X1 X2 X3] 27)).al (.cells #[.string yn, .int .i64 ye, .slice Y1 Y2 Y3] 27))
  by_cases hkey : xn.toList = yn.toList
  · have e0 : xn = yn := ba_inj hkey
    subst e0
    clear hkey
    cases tt : (xe == ye) with
    | false =>
      have tn : ¬ xe = ye := by rintro rfl; simp at tt
      have FIN := Lib.hid (HR.out false _ ⟨fun h => (by cases h), fun h => absurd (PL.out.1 h).2.1 tn⟩ G0.out)
      clear SA PL HR tn
      go_enter Tryd.func22, Tryd.ntmps22
      go_wp2
      exact FIN.out
    | true =>
      have et : xe = ye := by simpa using tt
      subst et
      clear tt
      go_enter Tryd.func22, Tryd.ntmps22
      go_wp2_with fail
      go_at_call 23
      refine SA.out _ G0.out _ ?_
      intro cc w2 hc hg2
      have G2 := Lib.hid (G0.out.tr hg2)
      clear hg2 SA
      cases cc with
      | true =>
        have FIN := Lib.hid (HR.out true _ ⟨fun _ => PL.out.2 ⟨by first | rfl | trivial, by first | rfl | trivial, hc.1 rfl⟩, fun _ => rfl⟩ G2.out)
        clear hc PL HR
        go_wp2
        exact FIN.out
      | false =>
        have FIN := Lib.hid (HR.out false _ ⟨fun h => (by cases h), fun h => by have := hc.2 (PL.out.1 h).2.2; cases this⟩ G2.out)
        clear hc PL HR
        go_wp2
        exact FIN.out
  · have hk2 : (xn.toList == yn.toList) = false := by rw [beq_eq_false_iff_ne]; exact hkey
    have FIN := Lib.hid (HR.out false _ ⟨fun h => (by cases h), fun h => absurd (congrArg _ (PL.out.1 h).1) hkey⟩ G0.out)
    clear SA PL HR
    go_enter Tryd.func22, Tryd.ntmps22
    go_wp2
    exact FIN.out

set_option maxRecDepth 100000 in
set_option maxHeartbeats 1000000 in
theorem tsame_any (a b : Value) (A B : List LyR) (S T : Nat → Prop) (w : World) (ha : LysRd w S a A) (hb : LysRd w T b B) {R : Ending → World → Prop} (hR : ∀ (c : Bool) w', (c = true ↔ A.map LyR.pl = B.map LyR.pl) → Grow w w' → R (.returned (.bool c)) w') :
    Calls Tryd.prog 9 #[a, b] w R := by
  have HR := Lib.hid hR
  have SA := Lib.hid fun (R : Ending → World → Prop) hR => eqLy_any a b A B _ _ w ha.1 hb.1 (fun x hx => (ha.2 x hx).fm) (fun y hy => (hb.2 y hy).fm) (fun x hx y hy w1 hg1 R hR => sameLy_any x y _ _ w1 ((ha.2 x hx).gr hg1) ((hb.2 y hy).gr hg1) hR) (R := R) hR
  clear hR ha hb
  go_enter Tryd.func9, Tryd.ntmps9
  go_wp2_with fail
  go_at_call 21
  refine SA.out _ ?_
  intro cc w2 hc hg2
  have FIN := Lib.hid (HR.out cc _ hc hg2)
  clear hc hg2 HR SA
  go_wp2
  exact FIN.out
end Go.Proofs.YtfdjdfobhkmlpaaDoor
