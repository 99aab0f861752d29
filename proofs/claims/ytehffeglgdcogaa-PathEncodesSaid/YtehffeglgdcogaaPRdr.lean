/-
  The reader of path.Decode: next, coord, closed, points, path.
-/
import Derived.Test.YtehffeglgdcogaaChecked
import Derived.Test.YtehffeglgdcogaaBox
import Derived.Test.YtehffeglgdcogaaPRowD
import Derived.Test.YtehffeglgdcogaaZig
import Derived.Test.YtehffeglgdcogaaPack
import Derived.Test.YtehffeglgdcogaaLexT
import Derived.Test.YtehffeglgdcogaaPRight
namespace Go.Proofs.Ytehffeglgdcogaa
open Go.RowKit B

theorem inm_bd {n : Int} (h : inm n = true) : -1048576 ≤ n ∧ n ≤ 1048576 := by simpa [inm] using h
theorem zag_bd {x : Int} (h : 0 ≤ x ∧ x ≤ 4294967295) : -2147483648 ≤ zag x ∧ zag x ≤ 2147483647 := by unfold zag; split <;> omega
def stopE (e : Int) : List PanicEntry := [{ v := .iface 83 (.agg #[.int .i64 e]), recovered := false }]
def RdrB (w0 : World) (rb : Nat) (lv : Value) (i : Nat) (a : Pt) (W : World) : Prop := BoxH w0 rb #[lv, .int .i64 i, .int .i64 a.x, .int .i64 a.y] 87 W

theorem by_grow {w w' : World} {row : Option Nat} (h : Grow w w') : w.grownBy w' row := ⟨h.os, h.tape, h.output, h.size, fun k hk _ => h.block k hk⟩
theorem by_set {w w' : World} (h : Grow w w') (b j : Nat) (v : Value) : w.grownBy (w'.setCell ⟨b, j, none⟩ v) (some b) :=
  ⟨h.os, h.tape, h.output, by rw [size_setCell]; exact h.size, fun k hk hne => by
    have e : b ≠ k := fun e => hne (by rw [e])
    have := h.block k hk
    simpa [World.setCell, Array.getElem?_modify, e] using this⟩
theorem by_tr {w w1 w2 : World} {row : Option Nat} (h1 : w.grownBy w1 row) (h2 : w1.grownBy w2 row) : w.grownBy w2 row :=
  ⟨h2.os.trans h1.os, h2.tape.trans h1.tape, h2.output.trans h1.output, Nat.le_trans h1.size h2.size, fun k hk hne => (h2.block k (Nat.lt_of_lt_of_le hk h1.size) hne).trans (h1.block k hk hne)⟩
/-- a row above w grew -/
theorem by_app {w w1 w2 : World} {row r : Option Nat} (h1 : w.grownBy w1 row) (h2 : w1.grownBy w2 r) (hr : ∀ k, r = some k → w.heap.size ≤ k) : w.grownBy w2 row :=
  ⟨h2.os.trans h1.os, h2.tape.trans h1.tape, h2.output.trans h1.output, Nat.le_trans h1.size h2.size, fun k hk hne => (h2.block k (Nat.lt_of_lt_of_le hk h1.size) (fun e => by have := hr k e.symm; omega)).trans (h1.block k hk hne)⟩

set_option maxRecDepth 100000 in
set_option maxHeartbeats 2000000 in
theorem next_any (l : List Int) (lv : Value) (rb i : Nat) (a : Pt) (w0 w : World) (hB : RdrB w0 rb lv i a w) (hl : Rd w0 (· < w0.heap.size) 1 lv l.length (U32 l)) {R : Ending → World → Prop}
    (hS : l.length ≤ i → ∀ w', w.grownBy w' (some rb) → R (.panicked (stopE 2)) w')
    (hR : ∀ (h : i < l.length) w', RdrB w0 rb lv (i + 1) a w' → w.grownBy w' (some rb) → R (.returned (.int .u32 l[i])) w') :
    Calls Try.prog 63 #[.pointer (some ⟨rb, 0, none⟩)] w R := by
  have HR := Lib.hid hR
  have HS := Lib.hid hS
  clear hR hS
  have HB := Lib.hid hB
  obtain ⟨_, A, c, rfl, h1, h2, h3, h4⟩ := hl
  unfold maxLen at h2
  unfold RdrB at hB
  have c0 := hB.cell 0
  have c1 := hB.cell 1
  have f1 := hB.free 1
  clear hB
  by_cases hlt : i < l.length
  · go_enter Try.func63, Try.ntmps63
    go_wp2
    go_quiet (fail)
    have hB1 := (HB.out : BoxH w0 rb _ _ w).tr ((Grow.refl w).dn nq)
    have hB2 := hB1.set 1 (.int .i64 ((i : Int) + 1))
    have HB2 := Lib.hid hB2
    have g1 := hB1.cell 1
    have gf1 := hB1.free 1
    have d0 := hB2.cell 0
    have d1 := hB2.cell 1
    obtain ⟨b, o, rfl, hS, hc⟩ := h4 (by omega)
    have cc : ((w.drewN nq).setCell ⟨rb, 1, none⟩ (.int .i64 ((i : Int) + 1))).cell? ⟨b, o + i, none⟩ = some (.int .u32 (l[i]'hlt)) :=
      (hB2.grow.cell (p := ⟨b, o + i, none⟩) hS).trans (hc i _ (U32_at l i hlt))
    have GB : Hid (w.grownBy ((w.drewN nq).setCell ⟨rb, 1, none⟩ (.int .i64 ((i : Int) + 1))) (some rb)) := by_set ((Grow.refl w).dn nq) rb 1 _
    have e1 : (i : Int) + 1 - 1 = i := by omega
    clear hB1 hB2 hc h4 c0 c1 f1
    go_wp2
    go_quiet (fail)
    go_wp2
    exact HR.out hlt _ ((HB2.out).tr ((Grow.refl _).dn nq)) (by_tr GB.out (by_grow ((Grow.refl _).dn nq)))
  · have t1 : decide (l.length ≤ i) = true := decide_eq_true (by omega)
    go_enter Try.func63, Try.ntmps63
    go_wp2
    go_quiet (fail)
    go_wp2
    exact ⟨rfl, HS.out (by omega) _ (by_grow ((Grow.refl w).dn nq))⟩

set_option maxRecDepth 100000 in
set_option maxHeartbeats 2000000 in
theorem coord_any (l : List Int) (lv : Value) (rb i : Nat) (a : Pt) (n : Int) (w0 w : World) (hB : RdrB w0 rb lv i a w) (hl : Rd w0 (· < w0.heap.size) 1 lv l.length (U32 l)) (hu : ∀ x ∈ l, 0 ≤ x ∧ x ≤ 4294967295) (hn : inm n = true) {R : Ending → World → Prop}
    (hS : l.length ≤ i → ∀ w', w.grownBy w' (some rb) → R (.panicked (stopE 2)) w')
    (hE : ∀ (h : i < l.length), inm (n + zag l[i]) = false → ∀ w', w.grownBy w' (some rb) → R (.panicked (stopE 8)) w')
    (hR : ∀ (h : i < l.length), inm (n + zag l[i]) = true → ∀ w', RdrB w0 rb lv (i + 1) a w' → w.grownBy w' (some rb) → R (.returned (.int .i64 (n + zag l[i]))) w') :
    Calls Try.prog 64 #[.pointer (some ⟨rb, 0, none⟩), .int .i64 n] w R := by
  have HR := Lib.hid hR
  have HS := Lib.hid hS
  have HE := Lib.hid hE
  have HU := Lib.hid hu
  have HN := Lib.hid hn
  have NX := Lib.hid fun (R : Ending → World → Prop) hS hR => next_any l lv rb i a w0 w hB hl (R := R) hS hR
  clear hR hS hE hu hB hl hn
  go_enter Try.func64, Try.ntmps64
  go_wp2_with fail
  go_at_call 63
  refine NX.out _ ?_ ?_
  · intro h w' hg
    exact ⟨rfl, HS.out h w' hg⟩
  · intro h w1 hB1 hg1
    have G1 := Lib.hid hg1
    have B1 := Lib.hid hB1
    have hx := HU.out l[i] (List.getElem_mem h)
    have HE1 := Lib.hid (HE.out h)
    have HR1 := Lib.hid (HR.out h)
    clear hg1 hB1 NX HR HE HS HU
    generalize l[i] = x at *
    have hn := inm_bd HN.out
    have zb := zag_bd hx
    have ZG := Lib.hid fun W (R : Ending → World → Prop) hR => zag_any x W (by unfold U64; omega) (R := R) hR
    have PI := Lib.hid fun W (R : Ending → World → Prop) hR => pin_any (n + zag x) W (R := R) hR
    have ew : wrap64 (n + zag x) = n + zag x := IntWalk.wrap64_in _ (by omega)
    have eu : IntKind.u64.wrap x = x := IntWalk.u64_in _ (by omega)
    clear zb hn hx
    go_wp2_with fail
    go_at_call 19
    refine ZG.out _ _ ?_
    go_wp2_with fail
    go_at_call 59
    first | (refine PI.out _ _ ?_) | (rw [ew]; refine PI.out _ _ ?_)
    cases hi : inm (n + zag x) with
    | true =>
      have HR2 := Lib.hid (HR1.out hi)
      clear hi
      go_wp2
      exact HR2.out _ B1.out G1.out
    | false =>
      have HE2 := Lib.hid (HE1.out hi)
      clear hi
      go_wp2
      exact ⟨rfl, HE2.out _ G1.out⟩
end Go.Proofs.Ytehffeglgdcogaa
