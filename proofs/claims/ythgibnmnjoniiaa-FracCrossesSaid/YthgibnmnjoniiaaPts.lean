import Derived.Test.YthgibnmnjoniiaaChecked
import Derived.Test.YthgibnmnjoniiaaBase
import Derived.Test.YthgibnmnjoniiaaPts0
import Derived.Test.YthgibnmnjoniiaaFrac
namespace Go.Proofs.Ythgibnmnjoniiaa
open Go.RowKit

def Pt.far (p : Pt) : Bool := !inw p.x || !inw p.y
def Pt.inside (p : Pt) (lo hi : Int) : Bool := decide (lo ≤ p.x) && decide (p.x ≤ hi) && decide (lo ≤ p.y) && decide (p.y ≤ hi)

set_option maxRecDepth 100000 in
set_option maxHeartbeats 1000000 in
theorem pfar_any (p : Pt) (w : World) {R : Ending → World → Prop} (hR : ∀ w', Grow w w' → R (.returned (.bool p.far)) w') : Calls Try.prog 19 #[.agg p.cells.toArray] w R := by
  obtain ⟨x, y⟩ := p
  have HR : ∀ b w', (Pt.far ⟨x, y⟩) = b → Grow w w' → R (.returned (.bool b)) w' := by rintro b w' rfl h; exact hR _ h
  have HR := Lib.hid HR
  clear hR
  have HI := Lib.hid fun W (R : Ending → World → Prop) hR => far_any x W (R := R) hR
  have HJ := Lib.hid fun W (R : Ending → World → Prop) hR => far_any y W (R := R) hR
  unfold Pt.cells
  dsimp only
  cases hq : inw x
  · rw [hq] at HI
    have hq := Lib.hid hq
    go_enter Try.func19, Try.ntmps19
    go_wp2_with (go_at_call 78; refine HI.out _ _ ?_)
    refine HR.out _ _ (by simp [Pt.far, hq.out]) ((Grow.refl w).al _)
  · rw [hq] at HI
    have hq := Lib.hid hq
    go_enter Try.func19, Try.ntmps19
    go_wp2_with (go_at_call 78; first | (refine HI.out _ _ ?_) | (refine HJ.out _ _ ?_))
    refine HR.out _ _ (by simp [Pt.far, hq.out]) ((Grow.refl w).al _)

set_option maxRecDepth 100000 in
set_option maxHeartbeats 1000000 in
theorem inside_any (p : Pt) (lo hi : Int) (w : World) {R : Ending → World → Prop} (hR : ∀ w', Grow w w' → R (.returned (.bool (p.inside lo hi))) w') : Calls Try.prog 23 #[.agg p.cells.toArray, .int .i64 lo, .int .i64 hi] w R := by
  obtain ⟨x, y⟩ := p
  have HR : ∀ b w', (Pt.inside ⟨x, y⟩ lo hi) = b → Grow w w' → R (.returned (.bool b)) w' := by rintro b w' rfl h; exact hR _ h
  have HR := Lib.hid HR
  clear hR
  unfold Pt.cells
  dsimp only
  cases h1 : decide (lo ≤ x)
  · go_enter Try.func23, Try.ntmps23
    go_wp2
    refine HR.out _ _ (by simp [Pt.inside, h1]) ((Grow.refl w).al _)
  · cases h2 : decide (x ≤ hi)
    · go_enter Try.func23, Try.ntmps23
      go_wp2
      refine HR.out _ _ (by simp [Pt.inside, h1, h2]) ((Grow.refl w).al _)
    · cases h3 : decide (lo ≤ y)
      · go_enter Try.func23, Try.ntmps23
        go_wp2
        refine HR.out _ _ (by simp [Pt.inside, h1, h2, h3]) ((Grow.refl w).al _)
      · go_enter Try.func23, Try.ntmps23
        go_wp2
        refine HR.out _ _ (by simp [Pt.inside, h1, h2, h3]) ((Grow.refl w).al _)

def Fr.btw (f : Fr) (lo hi : Int) : Bool := f.right && decide (lo ≤ f.q) && (decide (f.q < hi) || (f.q == hi && f.r == 0))

set_option maxRecDepth 100000 in
set_option maxHeartbeats 1000000 in
theorem btw_any (f : Fr) (lo hi : Int) (w : World) (hf : f.ok) {R : Ending → World → Prop} (hR : ∀ w', Grow w w' → R (.returned (.bool (f.btw lo hi))) w') : Calls Try.prog 22 #[.agg f.cells.toArray, .int .i64 lo, .int .i64 hi] w R := by
  have HG := Lib.hid fun W (R : Ending → World → Prop) hR => rright_any f W hf (R := R) hR
  have HR : ∀ b w', f.btw lo hi = b → Grow w w' → R (.returned (.bool b)) w' := by rintro b w' rfl h; exact hR _ h
  have HR := Lib.hid HR
  clear hR
  cases hr : f.right
  · rw [hr] at HG
    have hr := Lib.hid hr
    obtain ⟨q, r, d⟩ := f
    unfold Fr.cells at HG ⊢
    dsimp only at HG ⊢
    go_enter Try.func22, Try.ntmps22
    go_wp2_with (go_at_call 63; refine HG.out _ _ ?_; intro w1 hg1)
    refine HR.out _ _ (by simp [Fr.btw, hr.out]) (grow_al hg1)
  · rw [hr] at HG
    have hr := Lib.hid hr
    obtain ⟨q, r, d⟩ := f
    unfold Fr.cells at HG ⊢
    dsimp only at HG ⊢
    cases h1 : decide (lo ≤ q)
    · go_enter Try.func22, Try.ntmps22
      go_wp2_with (go_at_call 63; refine HG.out _ _ ?_; intro w1 hg1; have bx := box_at hg1)
      refine HR.out _ _ (by simp [Fr.btw, h1]) (grow_al hg1)
    · cases h2 : decide (q < hi)
      · cases h3 : (q == hi)
        · go_enter Try.func22, Try.ntmps22
          go_wp2_with (go_at_call 63; refine HG.out _ _ ?_; intro w1 hg1; have bx := box_at hg1)
          refine HR.out _ _ (by simp [Fr.btw, h2, h3]) (grow_al hg1)
        · go_enter Try.func22, Try.ntmps22
          go_wp2_with (go_at_call 63; refine HG.out _ _ ?_; intro w1 hg1; have bx := box_at hg1)
          refine HR.out _ _ ?_ (grow_al hg1)
          simp [Fr.btw, hr.out, h1, h2, h3]
          rw [Bool.eq_iff_iff]; simp
      · go_enter Try.func22, Try.ntmps22
        go_wp2_with (go_at_call 63; refine HG.out _ _ ?_; intro w1 hg1; have bx := box_at hg1)
        refine HR.out _ _ (by simp [Fr.btw, hr.out, h1, h2]) (grow_al hg1)

set_option maxRecDepth 100000 in
set_option maxHeartbeats 1000000 in
theorem samePts_any (a b : Value) (la lb : List Pt) (S T : Nat → Prop) (w : World) (ha : Rd w S 2 a la.length (Pts la)) (hb : Rd w T 2 b lb.length (Pts lb)) {R : Ending → World → Prop}
    (hR : ∀ w', Grow w w' → R (.returned (.bool (decide (la = lb)))) w') :
    Calls Try.prog 21 #[a, b] w R := by
  have ha := ha.lt (by decide)
  have hb := hb.lt (by decide)
  obtain ⟨_, A, c, rfl, h1, h2, h3, h4⟩ := ha
  obtain ⟨_, B, d, rfl, k1, k2, k3, k4⟩ := hb
  unfold maxLen at h2 k2
  have HR := Lib.hid hR
  clear hR
  by_cases hl : la.length = lb.length
  · have heq : ((la.length : Int) != lb.length) = false := by simp; omega
    have hl := Lib.hid hl
    go_enter Try.func21, Try.ntmps21
    go_wp2
    go_loopw [5] (fun i wr => ∃ k : Nat, k ≤ la.length ∧ i = .int .i64 k ∧ Hid (la.take k = lb.take k) ∧ ∃ n, wr = w.drewN n) (fun i _ => la.length - (intOf i).toNat)
    case atStart => exact ⟨0, Nat.zero_le _, rfl, rfl, 0, rfl⟩
    case round =>
      obtain ⟨k, hk, rfl, ht, n, rfl⟩ := hrel
      by_cases hlt : k < la.length
      · have hlt2 : k < lb.length := by rw [← hl.out]; exact hlt
        obtain ⟨b1, o1, rfl, hb1, hc1⟩ := h4 (by omega)
        obtain ⟨b2, o2, rfl, hb2, hc2⟩ := k4 (by omega)
        have e1 := flat_cells Pt.cells_len (Grow.refl w) hb1 hc1 hlt
        have e2 := flat_cells Pt.cells_len (Grow.refl w) hb2 hc2 hlt2
        clear hc1 hc2 h4 k4 h3 k3
        generalize hx : la[k] = x at *
        generalize hy : lb[k] = y at *
        obtain ⟨x1, x2⟩ := x
        obtain ⟨y1, y2⟩ := y
        have c1 := e1 0 _ rfl
        have c2 := e1 1 _ rfl
        have d1 := e2 0 _ rfl
        have d2 := e2 1 _ rfl
        simp only [Nat.add_zero] at c1 d1
        clear e1 e2
        have Hx := Lib.hid hx
        have Hy := Lib.hid hy
        clear hx hy
        have no : Hid (¬ (x1 = y1 ∧ x2 = y2) → decide (la = lb) = false) := by
          intro h
          refine decide_eq_false ?_
          rintro rfl
          have := Hx.out.symm.trans Hy.out
          simp only [Pt.mk.injEq] at this
          exact h this
        have yes : Hid (x1 = y1 ∧ x2 = y2 → la.take (k + 1) = lb.take (k + 1)) := by
          rintro ⟨rfl, rfl⟩
          exact take_succ_eq hlt hlt2 ht.out (Hx.out.trans Hy.out.symm)
        cases t1 : (x1 != y1)
        · cases t2 : (x2 != y2)
          · have E1 : x1 = y1 := by simpa using t1
            have E2 : x2 = y2 := by simpa using t2
            subst E1 E2
            clear t1 t2
            go_wp2
            go_quiet (fail)
            go_wp2
            go_roundw
            case rel => exact ⟨k + 1, by omega, by go_num, yes.out (by simp), _, rfl⟩
            case measure => simp [intOf]; omega
          · have E1 : x1 = y1 := by simpa using t1
            subst E1
            have t3 : (x2 == y2) = false := by simpa using t2
            have hno : Hid (decide (la = lb) = false) := no.out (by rintro ⟨_, rfl⟩; simp at t2)
            clear t1
            go_wp2
            go_quiet (fail)
            go_wp2
            have h := HR.out
            rw [hno.out] at h
            exact h _ (((Grow.refl w).dn _).tr ((Grow.refl _).dn _))
        · have t3 : (x1 == y1) = false := by simpa using t1
          have hno : Hid (decide (la = lb) = false) := no.out (by rintro ⟨rfl, _⟩; simp at t1)
          go_wp2
          go_quiet (fail)
          go_wp2
          have h := HR.out
          rw [hno.out] at h
          exact h _ (((Grow.refl w).dn _).tr ((Grow.refl _).dn _))
      · have : k = la.length := by omega
        subst this
        go_wp2
        have hxy : la = lb := by
          have := ht.out
          rw [List.take_length, hl.out, List.take_length] at this
          exact this
        have h := HR.out
        rw [decide_eq_true hxy] at h
        exact h _ ((Grow.refl w).dn _)
  · have heq : ((la.length : Int) != lb.length) = true := by simp; omega
    go_enter Try.func21, Try.ntmps21
    go_wp2
    have hxy : ¬ la = lb := by rintro rfl; exact hl rfl
    have h := HR.out
    rw [decide_eq_false hxy] at h
    exact h _ (Grow.refl _)
