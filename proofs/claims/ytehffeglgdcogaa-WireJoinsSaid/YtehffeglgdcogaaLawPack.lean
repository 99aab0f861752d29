import Derived.Test.YtehffeglgdcogaaChecked
import Derived.Test.YtehffeglgdcogaaBase
import Derived.Test.YtehffeglgdcogaaPack
import Derived.Test.YtehffeglgdcogaaWireL
import Derived.Test.YtehffeglgdcogaaLex
namespace Go.Proofs.Ytehffeglgdcogaa
open Go.RowKit

theorem code7_any (n : Int) (w : World) {R : Ending → World → Prop} (hR : R (.returned (.int .i64 n)) w) :
    Calls Try.prog 16 #[.int .i64 n] w R := by
  go_enter Try.func16, Try.ntmps16
  go_wp2
  exact hR

set_option maxRecDepth 100000 in
set_option maxHeartbeats 2000000 in
theorem wirePacks_walk (l : List Int) (bs : List UInt8) (a b : Value) (S T : Nat → Prop) (w : World) (ha : Rd w S 1 a l.length (U32 l)) (hb : Rd w T 1 b bs.length (U8 bs)) (hv : ∀ n ∈ l, 0 ≤ n ∧ n ≤ 4294967295)
    {R : Ending → World → Prop} (hR : ∀ w', Grow w w' → R (.returned (.bool true)) w') :
    Calls Try.prog 6 #[a, b] w R := by
  have HR := Lib.hid hR
  clear hR
  have HA := Lib.hid (ha.lt (by decide))
  have HB := Lib.hid (hb.lt (by decide))
  obtain ⟨_, A, c, rfl, h1, h2, _, _⟩ := ha
  obtain ⟨_, B, d, rfl, k1, k2, _, _⟩ := hb
  unfold maxLen at h2 k2
  have big : ∀ t1 : decide (300 < (l.length : Int)) = true ∨ (decide (300 < (l.length : Int)) = false ∧ decide (500 < (bs.length : Int)) = true), Calls Try.prog 6 #[.slice A l.length c, .slice B bs.length d] w R := by
    rintro (t1 | ⟨t1, t2⟩)
    all_goals
      go_enter Try.func6, Try.ntmps6
      go_wp2_with fail
      refine live_any _ fun w1 hg1 => ?_
      have HG1 := Lib.hid hg1
      clear hg1
      go_wp2
      exact HR.out _ HG1.out
  by_cases hl : l.length ≤ 300
  · by_cases hk : bs.length ≤ 500
    · have t1 : decide (300 < (l.length : Int)) = false := by simp; omega
      have t2 : decide (500 < (bs.length : Int)) = false := by simp; omega
      have hup := unpack_pack l hv
      have hpl := pack_len l
      have H1 := Lib.hid fun (R : Ending → World → Prop) hR => pack_any l _ _ w HA.out (by omega) hv (R := R) hR
      have H2 := fun v S W (h : Rd W S 1 v (pack l).length (U8 (pack l))) (R : Ending → World → Prop) hR => unpack_any (pack l) v S W h (by omega) (R := R) hR
      rw [hup] at H2
      have H2 := Lib.hid H2
      have H3 := Lib.hid fun v S W (h : Rd W S 1 v bs.length (U8 bs)) (R : Ending → World → Prop) hR => unpack_any bs v S W h (by omega) (R := R) hR
      have H4 := Lib.hid fun v S W (h : Rd W S 1 v bs.length (U8 bs)) (R : Ending → World → Prop) hR => runpack_any bs v S W h (by omega) (R := R) hR
      have H5 := Lib.hid fun v S W (h : Rd W S 1 v l.length (U32 l)) (R : Ending → World → Prop) hR => rpack_any l v S W h (by omega) hv (R := R) hR
      clear big hup hv hpl
      generalize pack l = X at *
      generalize unpack bs = Y at *
      obtain ⟨y, e⟩ := Y
      go_enter Try.func6, Try.ntmps6
      go_wp2_with fail
      refine H1.out _ ?_
      intro r1 w1 hown1 hg1
      have HO1 := Lib.hid (Rd.own_lt hown1)
      have HG1 := Lib.hid hg1
      clear hown1 hg1
      go_wp2_with fail
      refine H2.out _ _ _ HO1.out _ ?_
      intro r2 w2 hown2 hg2
      have HO2 := Lib.hid (Rd.own_lt hown2)
      have HG2 := Lib.hid hg2
      clear hown2 hg2
      go_wp2_with fail
      refine H3.out _ _ _ (HB.out.grow (HG1.out.tr HG2.out)) _ ?_
      intro r3 w3 hown3 hg3
      have HO3 := Lib.hid (Rd.own_lt hown3)
      have HG3 := Lib.hid hg3
      clear hown3 hg3
      go_wp2_with fail
      refine H4.out _ _ _ (HB.out.grow ((HG1.out.tr HG2.out).tr HG3.out)) _ ?_
      intro r4 w4 hown4 hg4
      have HO4 := Lib.hid (Rd.own_lt hown4)
      have HG4 := Lib.hid hg4
      clear hown4 hg4
      have P1 := Lib.hid (HO1.out.grow ((HG2.out.tr HG3.out).tr HG4.out))
      have P2 := Lib.hid (HO2.out.grow (HG3.out.tr HG4.out))
      have P3 := Lib.hid (HO3.out.grow HG4.out)
      have P0 := Lib.hid (HA.out.grow (((HG1.out.tr HG2.out).tr HG3.out).tr HG4.out))
      have PG := Lib.hid (((HG1.out.tr HG2.out).tr HG3.out).tr HG4.out)
      clear HO1 HO2 HO3 HG1 HG2 HG3 HG4 HA HB
      have hc1 := fun W (hg : Grow w4 W) => str_u8 (P1.out.gr (by decide) hg)
      go_wp2_with fail
      refine wp_region_lex w4 (Grow.refl _) [0, 1, 2, 3, 4, 5, 6, 7, 8, 9, 10, 11, 12, 13, 14, 15, 16, 17, 18, 19, 20, 21, 22, 24, 23, 25, 26, 27, 28, 29, 30] (by kernel_rfl) (by kernel_rfl) rfl (by kernel_rfl) (by intro c a d v w h; cases d <;> exact h) ?_
      have hgw := (Grow.refl w4).dr
      have tok1 : True := trivial
      repeat (first
        | (refine lex_skip rfl (by rfl) ?_)
        | (refine lex_take (v := ?_) rfl ?_ ?_ ?_; rotate_left; (rfl); (intro W h0 h1; go_simp; with_reducible rfl); simp only [Act.put, List.setIfInBounds_toArray, List.set_cons_zero, List.set_cons_succ])
        | (refine lex_turn rfl rfl rfl ?_; intro K hK; go_simp; first
            | (go_at_call 33; refine H5.out _ _ _ (P0.out.gr (by decide) (by assumption)) _ ?_; intro r5 w5 hown5 hg5; have hgw : Grow w4 w5 := Grow.tr (by assumption) hg5; have hc5 := fun W (hg : Grow w5 W) => str_u8 ((Rd.own hown5).gr (by decide) hg); clear hown5; refine hK.out _ _ hgw hg5 ?_)
            | (go_at_call 34; have _t := tok1; clear tok1 _t; refine sameInts_any _ _ l l _ _ _ (P2.out.gr (by decide) (by assumption)) (P0.out.gr (by decide) (by assumption)) ?_; intro w5 hg5; have hgw : Grow w4 w5 := Grow.tr (by assumption) hg5; refine hK.out _ _ hgw hg5 ?_)
            | (go_at_call 34; refine sameInts_any _ _ y y _ _ _ (P3.out.gr (by decide) (by assumption)) (HO4.out.gr (by decide) (by assumption)) ?_; intro w5 hg5; have hgw : Grow w4 w5 := Grow.tr (by assumption) hg5; refine hK.out _ _ hgw hg5 ?_)
            | (go_at_call 16; refine code7_any _ _ ?_; refine hK.out _ _ (by assumption) (Grow.refl _) ?_)
            | (go_at_call 11; refine live_any _ ?_; intro w5 hg5; have hgw : Grow w4 w5 := Grow.tr (by assumption) hg5; refine hK.out _ _ hgw hg5 ?_)))
      refine lex_nil ?_
      go_wp2
      exact HR.out _ (PG.out.tr (by assumption))
    · exact big (.inr ⟨by simp; omega, by simp; omega⟩)
  · exact big (.inl (by simp; omega))
end Go.Proofs.Ytehffeglgdcogaa
