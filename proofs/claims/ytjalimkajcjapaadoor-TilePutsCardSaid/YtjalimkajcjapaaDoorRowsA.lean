/-
  Rows of points (for the seat of tiles: the parts of RowsA that it needs).
-/
import Derived.Test.YtjalimkajcjapaaDoorPtsA
import Derived.Test.YtjalimkajcjapaaDoorChecked
import Derived.Test.YtjalimkajcjapaaDoorCore
namespace Go.Proofs.YtjalimkajcjapaaDoor
open Go.RowKit

structure PRow where
  v : Value
  l : List Pt
def PRow.rd (w : World) (S : Nat → Prop) (r : PRow) : Prop := Rd w S 2 r.v r.l.length (Pts r.l)

theorem rd_cell {w W : World} {S : Nat → Prop} {v : Value} {xs : List Value} {n i b o c : Nat} (hW : Grow w W) (h : Rd w S 1 v n xs) (hv : v = .slice (some ⟨b, o, none⟩) n c) (hi : i < xs.length) : W.cell? ⟨b, o + i, none⟩ = some xs[i] := by
  obtain ⟨hl, A, c', rfl, h1, h2, h3, h4⟩ := h
  injection hv with hA _ _
  subst hA
  obtain ⟨b', o', hA, _, hc⟩ := h4 (by omega)
  injection hA with hA
  injection hA with e1 e2
  subst e1 e2
  have := hc i xs[i] (List.getElem?_eq_getElem hi)
  exact (hW.cell (World.block_lt_of_cell? w _ this)).trans this

end Go.Proofs.YtjalimkajcjapaaDoor

namespace Go.Proofs.YtjalimkajcjapaaDoor
open Go.RowKit

set_option maxRecDepth 100000 in
set_option maxHeartbeats 4000000 in
theorem rsame9_any (a b : Value) (A B : List PRow) (S T S' T' : Nat → Prop) (w : World) (ha : Rd w S 1 a A.length (A.map PRow.v)) (hA : ∀ r ∈ A, r.rd w S') (hb : Rd w T 1 b B.length (B.map PRow.v)) (hB : ∀ r ∈ B, r.rd w T') {R : Ending → World → Prop}
    (hR : ∀ w', Grow w w' → R (.returned (.bool (decide (A.map PRow.l = B.map PRow.l)))) w') :
    Calls Tryd.prog 55 #[a, b] w R := by
  have HR := Lib.hid hR
  clear hR
  have HA0 := Lib.hid ha
  have HB0 := Lib.hid hb
  obtain ⟨_, A0, c, rfl, h1, h2, h3, h4⟩ := ha
  obtain ⟨_, B0, d, rfl, k1, k2, k3, k4⟩ := hb
  have HA := Lib.hid hA
  have HB := Lib.hid hB
  unfold maxLen at h2 k2
  clear hA hB
  by_cases hl : A.length = B.length
  · have heq : ((A.length : Int) != B.length) = false := by simp; omega
    have HLE := Lib.hid hl
    clear hl
    go_enter Tryd.func55, Tryd.ntmps55
    go_wp2
    clear heq
    go_loopw [5] (fun i wr => ∃ k n : Nat, k ≤ A.length ∧ i = .int .i64 k ∧ wr = w.drewN n ∧ Hid ((A.map PRow.l).take k = (B.map PRow.l).take k)) (fun i _ => A.length - (intOf i).toNat)
    case atStart => exact ⟨0, 0, Nat.zero_le _, rfl, rfl, rfl⟩
    case round =>
      obtain ⟨k, n, hk, rfl, rfl, ht⟩ := hrel
      by_cases hlt : k < A.length
      · have hlt2 : k < B.length := by rw [← HLE.out]; exact hlt
        obtain ⟨b1, o1, rfl, -, -⟩ := h4 (by omega)
        obtain ⟨b2, o2, rfl, -, -⟩ := k4 (by omega)
        have c1 : w.cell? ⟨b1, o1 + k, none⟩ = some (A[k]'hlt).v := by
          have := rd_cell (Grow.refl w) HA0.out rfl (i := k) (by simpa using hlt)
          rw [List.getElem_map] at this
          exact this
        have c2 : w.cell? ⟨b2, o2 + k, none⟩ = some (B[k]'hlt2).v := by
          have := rd_cell (Grow.refl w) HB0.out rfl (i := k) (by simpa using hlt2)
          rw [List.getElem_map] at this
          exact this
        have r1 := HA.out (A[k]'hlt) (List.getElem_mem hlt)
        have r2 := HB.out (B[k]'hlt2) (List.getElem_mem hlt2)
        have YES : Hid ((A[k]'hlt).l = (B[k]'hlt2).l → (A.map PRow.l).take (k + 1) = (B.map PRow.l).take (k + 1)) := by
          intro h
          exact take_succ_eq (by simpa using hlt) (by simpa using hlt2) ht.out (by simpa using h)
        have NO : Hid (¬ (A[k]'hlt).l = (B[k]'hlt2).l → decide (A.map PRow.l = B.map PRow.l) = false) := by
          intro h
          refine decide_eq_false fun e => h ?_
          have e1 : (A.map PRow.l)[k]? = (B.map PRow.l)[k]? := by rw [e]
          simpa [hlt, hlt2] using e1
        clear h3 h4 k3 k4 ht
        generalize A[k]'hlt = ra at *
        generalize B[k]'hlt2 = rb at *
        obtain ⟨v1, l1⟩ := ra
        obtain ⟨v2, l2⟩ := rb
        unfold PRow.rd at r1 r2
        dsimp only at *
        have r1 := r1.lt (by decide)
        have r2 := r2.lt (by decide)
        obtain ⟨_, X, cx, rfl, x1, x2, x3, x4⟩ := r1
        obtain ⟨_, Y, cy, rfl, y1, y2, y3, y4⟩ := r2
        unfold maxLen at x2 y2
        by_cases hll : l1.length = l2.length
        · have t0 : ((l1.length : Int) != l2.length) = false := by simp; omega
          have HLL := Lib.hid hll
          clear hll
          go_wp2
          go_quiet (fail)
          go_wp2
          clear t0
          go_loopw [6] (fun i wz => ∃ j n : Nat, j ≤ l1.length ∧ i = .int .i64 j ∧ wz = w.drewN n ∧ Hid (l1.take j = l2.take j)) (fun i _ => l1.length - (intOf i).toNat)
          case atStart => exact ⟨0, _, Nat.zero_le _, rfl, World.drewN_drewN _ _ _, rfl⟩
          case round =>
            obtain ⟨j, n', hj, rfl, rfl, ht⟩ := hrel
            by_cases hjl : j < l1.length
            · have hjl2 : j < l2.length := by rw [← HLL.out]; exact hjl
              obtain ⟨b3, o3, rfl, hb3, hc3⟩ := x4 (by omega)
              obtain ⟨b4, o4, rfl, hb4, hc4⟩ := y4 (by omega)
              have e1 := flat_cells Pt.cells_len (Grow.refl w) hb3 hc3 hjl
              have e2 := flat_cells Pt.cells_len (Grow.refl w) hb4 hc4 hjl2
              clear hc3 hc4 x4 x3 y4 y3
              generalize hx : l1[j] = x at *
              generalize hy : l2[j] = y at *
              obtain ⟨p1, p2⟩ := x
              obtain ⟨q1, q2⟩ := y
              have d1 := e1 0 _ rfl
              have d2 := e1 1 _ rfl
              have d3 := e2 0 _ rfl
              have d4 := e2 1 _ rfl
              simp only [Nat.add_zero] at d1 d3
              clear e1 e2
              have Hx := Lib.hid hx
              have Hy := Lib.hid hy
              clear hx hy
              have no : Hid (¬ (p1 = q1 ∧ p2 = q2) → decide (A.map PRow.l = B.map PRow.l) = false) := by
                intro h
                refine NO.out ?_
                rintro rfl
                have := Hx.out.symm.trans Hy.out
                simp only [Pt.mk.injEq] at this
                exact h this
              have yes : Hid (p1 = q1 ∧ p2 = q2 → l1.take (j + 1) = l2.take (j + 1)) := by
                rintro ⟨rfl, rfl⟩
                exact take_succ_eq hjl hjl2 ht.out (Hx.out.trans Hy.out.symm)
              cases t1 : (p1 != q1)
              · cases t2 : (p2 != q2)
                · have E1 : p1 = q1 := by simpa using t1
                  have E2 : p2 = q2 := by simpa using t2
                  subst E1 E2
                  clear t1 t2
                  go_wp2
                  go_quiet (fail)
                  go_wp2
                  go_roundw
                  case rel => exact ⟨j + 1, _, by omega, by go_num, rfl, yes.out (by simp)⟩
                  case measure => simp [intOf]; omega
                · have E1 : p1 = q1 := by simpa using t1
                  subst E1
                  have t3 : (p2 == q2) = false := by simpa using t2
                  have hno : Hid (decide (A.map PRow.l = B.map PRow.l) = false) := no.out (by rintro ⟨_, rfl⟩; simp at t2)
                  clear t1
                  go_wp2
                  go_quiet (fail)
                  go_wp2
                  have h := HR.out
                  rw [hno.out] at h
                  exact h _ (((Grow.refl w).dn _).tr ((Grow.refl _).dn _))
              · have t3 : (p1 == q1) = false := by simpa using t1
                have hno : Hid (decide (A.map PRow.l = B.map PRow.l) = false) := no.out (by rintro ⟨rfl, _⟩; simp at t1)
                go_wp2
                go_quiet (fail)
                go_wp2
                have h := HR.out
                rw [hno.out] at h
                exact h _ (((Grow.refl w).dn _).tr ((Grow.refl _).dn _))
            · obtain rfl : j = l1.length := by omega
              have hxy : l1 = l2 := by
                have := ht.out
                rw [List.take_length, HLL.out, List.take_length] at this
                exact this
              have Hxy := Lib.hid hxy
              clear hxy
              go_wp2
              go_roundw
              case rel => exact ⟨k + 1, _, by omega, by go_num, rfl, YES.out Hxy.out⟩
              case measure => simp [intOf]; omega
        · have t0 : ((l1.length : Int) != l2.length) = true := by simp; omega
          have hno : Hid (decide (A.map PRow.l = B.map PRow.l) = false) := NO.out (by rintro rfl; exact hll rfl)
          go_wp2
          go_quiet (fail)
          go_wp2
          have h := HR.out
          rw [hno.out] at h
          exact h _ (((Grow.refl w).dn _).tr ((Grow.refl _).dn _))
      · have : k = A.length := by omega
        subst this
        go_wp2
        have hxy : A.map PRow.l = B.map PRow.l := by
          have := ht.out
          rw [List.take_of_length_le (by simp), List.take_of_length_le (by rw [List.length_map, HLE.out]; exact Nat.le_refl _)] at this
          exact this
        have h := HR.out
        rw [decide_eq_true hxy] at h
        exact h _ ((Grow.refl w).dn _)
  · have heq : ((A.length : Int) != B.length) = true := by simp; omega
    go_enter Tryd.func55, Tryd.ntmps55
    go_wp2
    have hxy : ¬ A.map PRow.l = B.map PRow.l := by
      intro h
      have := congrArg List.length h
      simp at this
      exact hl this
    have h := HR.out
    rw [decide_eq_false hxy] at h
    exact h _ (Grow.refl _)
end Go.Proofs.YtjalimkajcjapaaDoor

namespace Go.Proofs.YtjalimkajcjapaaDoor
open Go.RowKit

/-- not the block of the row v -/
def Ins (v : Value) : Nat → Prop := fun b => some b ≠ v.ownBlock
def RowsIn (w : World) (v : Value) (rows : List PRow) : Prop := ∀ r ∈ rows, r.rd w (Ins v)

theorem Rd.and_lt {w : World} {S : Nat → Prop} {size n : Nat} {v : Value} {xs : List Value} (h : Rd w S size v n xs) (h0 : 0 < size) : Rd w (fun b => S b ∧ b < w.heap.size) size v n xs := by
  have hl := h.lt h0
  obtain ⟨hl0, A, c, hv, h1, h2, h3, h4⟩ := h
  refine ⟨hl0, A, c, hv, h1, h2, h3, fun hn => ?_⟩
  obtain ⟨b, o, hA, hSb, hc⟩ := h4 hn
  have hx : 0 < xs.length := by rw [hl0]; exact Nat.mul_pos hn h0
  exact ⟨b, o, hA, ⟨hSb, World.block_lt_of_cell? w _ (hc 0 xs[0] (List.getElem?_eq_getElem hx))⟩, hc⟩

theorem RowsIn.grow {w w' : World} {v : Value} {rows : List PRow} (h : RowsIn w v rows) (hg : Grow w w') : RowsIn w' v rows := fun r hr => (h r hr).gr2 (by decide) hg

theorem Rd.ins_app {w w' : World} {size n : Nat} {v v' x : Value} {xs : List Value} (h : Rd w (Ins v) size x n xs) (h0 : 0 < size) (hg : w.grownBy w' v.ownBlock) (hb : v'.ownBlock = v.ownBlock ∨ v'.ownBlock = some (w.heap.size + 1)) : Rd w' (Ins v') size x n xs := by
  have h1 := (h.and_lt h0).by_ h0 hg (fun b hb => hb.1)
  refine h1.into fun b hb1 => ?_
  unfold Ins at hb1 ⊢
  rcases hb with hb | hb
  · rw [hb]; exact hb1.1
  · rw [hb]
    intro e
    injection e with e
    omega

theorem RowsIn.app {w w' : World} {v v' : Value} {rows : List PRow} {r : PRow} (h : RowsIn w v rows) (hr : r.rd w (Ins v)) (hg : w.grownBy w' v.ownBlock) (hb : v'.ownBlock = v.ownBlock ∨ v'.ownBlock = some (w.heap.size + 1)) : RowsIn w' v' (rows ++ [r]) := by
  intro q hq
  rcases List.mem_append.1 hq with hq | hq
  · exact (h q hq).ins_app (by decide) hg hb
  · rw [List.mem_singleton.1 hq]
    exact Rd.ins_app hr (by decide) hg hb

/-- a row laid after the row v was: not in v's block -/
theorem RowsIn.new {w1 w2 : World} {e e' base size n m : Nat} {v x : Value} {xs : List Value} {l : List Pt} (h : w1.ownsRow base e size v n xs) (h2 : w2.ownsRow w1.heap.size e' 2 x m (Pts l)) (hm : m = l.length := by rfl) : PRow.rd w2 (Ins v) ⟨x, l⟩ := by
  subst hm
  refine (Rd.own_from h2).into fun b hb => ?_
  intro e
  have := (h.lt b e.symm).2
  omega
end Go.Proofs.YtjalimkajcjapaaDoor
