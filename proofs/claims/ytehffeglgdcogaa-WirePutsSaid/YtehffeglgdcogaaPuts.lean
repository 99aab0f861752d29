import Derived.Test.YtehffeglgdcogaaChecked
import Derived.Test.YtehffeglgdcogaaBox
import Derived.Test.YtehffeglgdcogaaLex
import Derived.Test.YtehffeglgdcogaaWireL
import Derived.Test.YtehffeglgdcogaaWire4
import Derived.Test.YtehffeglgdcogaaWire5
import Derived.Test.YtehffeglgdcogaaSame
import Derived.Test.YtehffeglgdcogaaLong
namespace Go.Proofs.Ytehffeglgdcogaa
open Go.RowKit

theorem Flds.gr {w w' : World} {S : Nat → Prop} {v : Value} {l : List Fld} (h : Flds w S v l) (hg : Grow w w') : Flds w' S v l := ⟨h.1.gr2 (by decide) hg, fun f hf => ⟨(h.2 f hf).1, (h.2 f hf).2.1, (h.2 f hf).2.2.1, (h.2 f hf).2.2.2.gr2 (by decide) hg⟩⟩

set_option maxRecDepth 100000 in
set_option maxHeartbeats 4000000 in
theorem wirePuts_walk (l m : List Fld) (a b : Value) (S T : Nat → Prop) (w : World) (ha : Flds w S a l) (hb : Flds w T b m) (za : ∀ f ∈ l, f.data.length ≤ 140737488355328) (zb : ∀ f ∈ m, f.data.length ≤ 140737488355328)
    {R : Ending → World → Prop} (hR : ∀ w', Grow w w' → R (.returned (.bool true)) w') :
    Calls Try.prog 4 #[a, b] w R := by
  have HR := Lib.hid hR
  have HA := Lib.hid ha
  have HB := Lib.hid hb
  have ZA := Lib.hid za
  have ZB := Lib.hid zb
  clear hR ha hb za zb
  go_enter Try.func4, Try.ntmps4
  go_wp2_with fail
  refine long_any l a _ w HA.out ZA.out ?_
  intro b1 hb1
  have HB1 := Lib.hid hb1
  clear hb1
  cases b1 with
  | true =>
    go_wp2_with fail
    refine live_any _ ?_
    intro w9 hg9
    go_wp2
    exact HR.out _ hg9
  | false =>
    have SA := Lib.hid (HB1.out rfl)
    clear HB1
    go_wp2_with fail
    refine long_any m b _ w HB.out ZB.out ?_
    intro b2 hb2
    have HB2 := Lib.hid hb2
    clear hb2
    cases b2 with
    | true =>
      go_wp2_with fail
      refine live_any _ ?_
      intro w9 hg9
      go_wp2
      exact HR.out _ hg9
    | false =>
      clear HB2
      have PA := Lib.hid fun W (h : Grow w W) (R : Ending → World → Prop) hR => put_any l a _ W (HA.out.gr h) (by have := SA.out.1; omega) SA.out.2 (R := R) hR
      have QA := Lib.hid fun W (h : Grow w W) (R : Ending → World → Prop) hR => rput_any l a _ W (HA.out.gr h) (by have := SA.out.1; omega) SA.out.2 (R := R) hR
      have SAB := Lib.hid fun W (h : Grow w W) (R : Ending → World → Prop) hR => same_any l m a b _ _ W (HA.out.gr h) (HB.out.gr h) (R := R) hR
      have RAB := Lib.hid fun W (h : Grow w W) (R : Ending → World → Prop) hR => rsame_any l m a b _ _ W (HA.out.gr h) (HB.out.gr h) (R := R) hR
      have SAA := Lib.hid fun W (h : Grow w W) (R : Ending → World → Prop) hR => same_any l l a a _ _ W (HA.out.gr h) (HA.out.gr h) (R := R) hR
      rw [eqBy_refl _ fsame_refl] at SAA
      generalize l.flatMap fput = X at *
      generalize eqBy fsame l m = q at *
      clear SA
      go_wp2_with fail
      refine wp_region_lex (w) (Grow.refl _) [0, 3, 1, 2, 4, 5, 6, 7, 8, 9, 11, 12, 10, 13, 14, 15, 16, 17, 18, 19, 20, 21, 22, 23, 24] (by kernel_rfl) (by kernel_rfl) rfl (by kernel_rfl) (by intro c a d v w h; cases d <;> exact h) ?_
      iterate 2 (refine lex_take (v := ?_) rfl ?_ ?_ ?_; rotate_left; (rfl); (intro W h0 h1; go_simp; with_reducible rfl); try simp only [Act.put, List.setIfInBounds_toArray, List.set_cons_zero, List.set_cons_succ])
      refine lex_turn rfl rfl rfl ?_; intro K hK; go_simp; go_at_call 22; refine PA.out _ (Grow.refl _).dr _ ?_; intro r1 w1 hown1 hg1
      have G1 := Lib.hid (grow_drew hg1)
      have S1 := Lib.hid fun W (hg : Grow w1 W) => str_u8 ((Rd.own hown1).gr2 (by decide) hg)
      refine hK.out _ _ G1.out hg1 ?_
      clear hK hown1 hg1
      try simp only [Act.put, List.setIfInBounds_toArray, List.set_cons_zero, List.set_cons_succ]
      iterate 1 (refine lex_take (v := ?_) rfl ?_ ?_ ?_; rotate_left; (rfl); (intro W h0 h1; have S1 := S1.out; go_simp; with_reducible rfl); try simp only [Act.put, List.setIfInBounds_toArray, List.set_cons_zero, List.set_cons_succ])
      refine lex_turn rfl rfl rfl ?_; intro K hK; go_simp; go_at_call 23; refine QA.out _ G1.out _ ?_; intro r2 w2 hown2 hg2
      have G2 := Lib.hid (G1.out.tr hg2)
      have S2 := Lib.hid fun W (hg : Grow w2 W) => str_u8 ((Rd.own hown2).gr2 (by decide) hg)
      refine hK.out _ _ G2.out hg2 ?_
      clear hK hown2 hg2
      try simp only [Act.put, List.setIfInBounds_toArray, List.set_cons_zero, List.set_cons_succ]
      iterate 1 (refine lex_take (v := ?_) rfl ?_ ?_ ?_; rotate_left; (rfl); (intro W h0 h1; have S2 := S2.out; go_simp; with_reducible rfl); try simp only [Act.put, List.setIfInBounds_toArray, List.set_cons_zero, List.set_cons_succ])
      iterate 6 (refine lex_take (v := ?_) rfl ?_ ?_ ?_; rotate_left; (rfl); (intro W h0 h1; go_simp; with_reducible rfl); try simp only [Act.put, List.setIfInBounds_toArray, List.set_cons_zero, List.set_cons_succ])
      refine lex_turn rfl rfl rfl ?_; intro K hK; go_simp; go_at_call 24; refine SAB.out _ G2.out _ ?_; intro w3 hg3
      have G3 := Lib.hid (G2.out.tr hg3)
      refine hK.out _ _ G3.out hg3 ?_
      clear hK hg3
      try simp only [Act.put, List.setIfInBounds_toArray, List.set_cons_zero, List.set_cons_succ]
      refine lex_turn rfl rfl rfl ?_; intro K hK; go_simp; go_at_call 25; refine RAB.out _ G3.out _ ?_; intro w4 hg4
      have G4 := Lib.hid (G3.out.tr hg4)
      refine hK.out _ _ G4.out hg4 ?_
      clear hK hg4
      try simp only [Act.put, List.setIfInBounds_toArray, List.set_cons_zero, List.set_cons_succ]
      iterate 5 (refine lex_take (v := ?_) rfl ?_ ?_ ?_; rotate_left; (rfl); (intro W h0 h1; go_simp; with_reducible rfl); try simp only [Act.put, List.setIfInBounds_toArray, List.set_cons_zero, List.set_cons_succ])
      refine lex_turn rfl rfl rfl ?_; intro K hK; go_simp; go_at_call 24; refine SAA.out _ G4.out _ ?_; intro w5 hg5
      have G5 := Lib.hid (G4.out.tr hg5)
      refine hK.out _ _ G5.out hg5 ?_
      clear hK hg5
      try simp only [Act.put, List.setIfInBounds_toArray, List.set_cons_zero, List.set_cons_succ]
      iterate 2 (refine lex_take (v := ?_) rfl ?_ ?_ ?_; rotate_left; (rfl); (intro W h0 h1; go_simp; with_reducible rfl); try simp only [Act.put, List.setIfInBounds_toArray, List.set_cons_zero, List.set_cons_succ])
      refine lex_turn rfl rfl rfl ?_; intro K hK; go_simp; go_at_call 11; refine live_any _ ?_; intro w6 hg6
      have G6 := Lib.hid (G5.out.tr hg6)
      refine hK.out _ _ G6.out hg6 ?_
      clear hK hg6
      try simp only [Act.put, List.setIfInBounds_toArray, List.set_cons_zero, List.set_cons_succ]
      iterate 2 (refine lex_take (v := ?_) rfl ?_ ?_ ?_; rotate_left; (rfl); (intro W h0 h1; go_simp; with_reducible rfl); try simp only [Act.put, List.setIfInBounds_toArray, List.set_cons_zero, List.set_cons_succ])
      refine lex_nil ?_
      go_wp2
      exact HR.out _ G6.out
end Go.Proofs.Ytehffeglgdcogaa
