/-
  path.Decode: what is deferred.
-/
import Derived.Test.YtehffeglgdcogaaChecked
import Derived.Test.YtehffeglgdcogaaPRdr3
import Derived.Test.YtehffeglgdcogaaRecov
namespace Go.Proofs.Ytehffeglgdcogaa
open Go.RowKit B

set_option maxRecDepth 100000 in
set_option maxHeartbeats 1000000 in
theorem known_any (n : Int) (w : World) {R : Ending → World → Prop} (hR : R (.returned (.bool (decide (1 ≤ n) && decide (n ≤ 3)))) w) :
    Calls Try.prog 52 #[.int .i64 n] w R := by
  have HR := Lib.hid hR
  clear hR
  go_enter Try.func52, Try.ntmps52
  by_cases h1 : 1 ≤ n
  · by_cases h2 : n ≤ 3
    · have HR2 : Hid (R (.returned (.bool true)) w) := by have := HR.out; simp only [decide_eq_true h1, decide_eq_true h2] at this; exact this
      go_wp2
      simpa [h1, h2] using HR2.out
    · have HR2 : Hid (R (.returned (.bool false)) w) := by have := HR.out; simp only [decide_eq_true h1, decide_eq_false h2] at this; exact this
      go_wp2
      simpa [h1, h2] using HR2.out
  · have HR2 : Hid (R (.returned (.bool false)) w) := by have := HR.out; simp only [decide_eq_false h1] at this; exact this
    go_wp2
    simpa [h1] using HR2.out

theorem stop_nil (W : World) : (Instr.typeAssert .nilIface 20 83 true).run Try.prog W = .ok (.tuple #[.agg #[.int .i64 0], .bool false]) W := by kernel_rfl
theorem stop_is (W : World) (v : Value) : (Instr.typeAssert (.iface 83 v) 20 83 true).run Try.prog W = .ok (.tuple #[v, .bool true]) W := by kernel_rfl
set_option maxRecDepth 100000 in
set_option maxHeartbeats 2000000 in
theorem catch_idle (p q : Addr) (w : World) :
    CallsD Try.prog 53 #[.pointer (some p), .pointer (some q)] .returning w fun e u' w' => e = .returned (.tuple #[]) ∧ u' = .returning ∧ Grow w w' := by
  have hs := stop_nil
  refine callsD_of_wpS Try.func53 rfl fun c₀ cs hu => ?_
  simp only [Try.ntmps53, List.size_toArray, List.length_cons, List.length_nil, Nat.reduceAdd, Nat.reduceSub, Array.replicate_succ, Array.replicate_zero, List.push_toArray, List.append_toArray, List.nil_append, List.cons_append]
  refine wpS_recover (v := .nilIface) (cs' := c₀ :: cs) rfl rfl (by simp [recOf, recoverD, hu]) ?_
  go_wp2
  refine wpS_of_wp ?_
  go_wp2
  exact ⟨rfl, c₀.mode, by cases c₀; rfl, .tuple #[], results_none rfl _ _ _, rfl, hu, (Grow.refl w).al _⟩

theorem c0 {a b : World} {pb : Nat} {v : Value} {t : TypeId} (h : BoxH a pb #[v] t b) : b.cell? ⟨pb, 0, none⟩ = some v := h.cell 0
set_option maxRecDepth 100000 in
set_option maxHeartbeats 4000000 in
theorem catch_stop (pb qb : Nat) (lv ev : Value) (e0 : Int) (w0 w : World) (hp : BoxH w0 pb #[lv] 40 w) (hq : BoxH w0 qb #[ev] 25 w) (hne : pb ≠ qb) :
    CallsD Try.prog 53 #[.pointer (some ⟨pb, 0, none⟩), .pointer (some ⟨qb, 0, none⟩)] (.panicking (stopE e0)) w fun e u' w' => e = .returned (.tuple #[]) ∧ u' = .panicking [{ v := .iface 83 (.agg #[.int .i64 e0]), recovered := true }] ∧ BoxH w0 pb #[.slice none 0 0] 40 w' ∧ BoxH w0 qb #[.int .i64 e0] 25 w' := by
  have hs := stop_is
  refine callsD_of_wpS Try.func53 rfl fun c₀ cs hu => ?_
  simp only [Try.ntmps53, List.size_toArray, List.length_cons, List.length_nil, Nat.reduceAdd, Nat.reduceSub, Array.replicate_succ, Array.replicate_zero, List.push_toArray, List.append_toArray, List.nil_append, List.cons_append]
  refine wpS_recover (v := .iface 83 (.agg #[.int .i64 e0])) (cs' := { c₀ with mode := .panicking [{ v := .iface 83 (.agg #[.int .i64 e0]), recovered := true }] } :: cs) rfl rfl (by simp [recOf, recoverD, hu, stopE]) ?_
  have HP := Lib.hid (hp.tr ((Grow.refl w).al (.cells #[.int .i64 e0] 83)))
  have HQ := Lib.hid (hq.tr ((Grow.refl w).al (.cells #[.int .i64 e0] 83)))
  go_wp2
  refine wpS_of_wp ?_
  have hlp := hp.lt
  have hlq := hq.lt
  have GP := Lib.hid hp.2.1
  have GQ := Lib.hid hq.2.1
  clear hp hq
  have p0 := HP.out.cell 0
  have p1 := HP.out.free 0
  have q0 := HQ.out.cell 0
  have q1 := HQ.out.free 0
  have s0 := (BoxH.laid #[.int .i64 e0] 83 (Grow.refl w)).cell 0
  have n1 : pb ≠ w.heap.size := by omega
  have n2 : qb ≠ w.heap.size := by omega
  have n3 : w.heap.size ≠ pb := by omega
  have n4 : w.heap.size ≠ qb := by omega
  have n5 : qb ≠ pb := by omega
  clear hlp hlq
  have X := HP.out.grow
  generalize w.alloc (.cells #[.int .i64 e0] 83) = wa at *
  generalize w.heap.size = sb at *
  go_wp2_with fail
  have B1 := HP.out.set 0 (.slice none 0 0)
  have B2 := HQ.out.other (j := 0) (v := .slice none 0 0) n5 GP.out
  have B3 := Lib.hid ((B1.other (j := 0) (v := .int .i64 e0) hne GQ.out).tr (Grow.refl _).dr)
  have B4 := Lib.hid ((B2.set 0 (.int .i64 e0)).tr (Grow.refl _).dr)
  clear B1 B2
  go_region
  go_wp2
  exact ⟨rfl, .panicking [{ v := .iface 83 (.agg #[.int .i64 e0]), recovered := true }], rfl, .tuple #[], results_none rfl _ _ _, rfl, rfl, B3.out, B4.out⟩
end Go.Proofs.Ytehffeglgdcogaa
