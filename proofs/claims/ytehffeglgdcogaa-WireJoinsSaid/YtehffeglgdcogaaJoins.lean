import Derived.Test.YtehffeglgdcogaaChecked
import Derived.Test.YtehffeglgdcogaaGets
namespace Go.Proofs.Ytehffeglgdcogaa
open Go.RowKit

/-- append to a slice that has just been made, with nothing in it -/
theorem wpList_app0 {P : Program} {w : World} {t e : TypeId} {z : Value} {size bytes : Nat} {ops : Array Oper} {rest : List Oper} {o : Oper} {a : Act} {Q : Exit → Act → World → Prop} (hgd : o.guard = none) (s x : Operand)
    (ho : o.op = .call { callee := .builtin .append, args := #[s, x], argTypes := #[t, t] })
    (E : Elem P t e z size bytes) {g : Nat} (hgz : w.heap.size = g) (hs : a.eval s = .slice (some ⟨g, 0, none⟩) 0 0)
    {S : Nat → Prop} {src : Value} {m : Nat} {news : List Value} (hr : Rd w S size src m news) (hx : a.eval x = src) (h1 : ∀ u ∈ news, u.oneCell' = true)
    (hn : m * bytes ≤ 140737488355328)
    (h : ∀ v' w', w'.ownsRow w.heap.size e size v' m news → Grow w w' → wpList P ops Q rest (a.put o.dst v') w') : wpList P ops Q (o :: rest) a (w.alloc (.cells #[] e)) := by
  subst hgz
  have hrow := World.ownsRow_lit (base := w.heap.size) (e := e) (size := size) w #[] 0 (Nat.le_refl _) (by decide) (by simp)
  by_cases h0 : 0 < size
  · refine wpList_app hgd s x ho E hrow hs (hr.gr2 h0 ((Grow.refl w).al _)) hx h1 (by rw [Nat.zero_add]; exact hn) (by rw [World.size_alloc]; omega) fun v' w' k1 k2 k3 => ?_
    refine h v' w' (own_eq k1 (Nat.zero_add _) (by simp)) (grow_app ((Grow.refl w).al _) k2 (own_ge hrow))
  · exact absurd E.h0 h0
theorem wpList_appg {P : Program} {w : World} {t e : TypeId} {z : Value} {size bytes : Nat} {ops : Array Oper} {rest : List Oper} {o : Oper} {a : Act} {Q : Exit → Act → World → Prop} (hw : Region.wanted o (yielded ops a.tmps) = true) (s x : Operand)
    (ho : o.op = .call { callee := .builtin .append, args := #[s, x], argTypes := #[t, t] })
    (E : Elem P t e z size bytes) {base : Nat} {v : Value} {n : Nat} {xs : List Value} (hown : w.ownsRow base e size v n xs) (hs : a.eval s = v)
    {S : Nat → Prop} {src : Value} {m : Nat} {news : List Value} (hr : Rd w S size src m news) (hx : a.eval x = src) (h1 : ∀ u ∈ news, u.oneCell' = true)
    (hn : (n + m) * bytes ≤ 140737488355328) (hbase : base ≤ w.heap.size)
    (h : ∀ v' w', w'.ownsRow base e size v' (n + m) (xs ++ news) → w.grownBy w' v.ownBlock → (v'.ownBlock = v.ownBlock ∨ v'.ownBlock = some w.heap.size) → wpList P ops Q rest (a.put o.dst v') w') : wpList P ops Q (o :: rest) a w := by
  refine wpList_step fun K hK => ?_
  rw [if_pos hw]
  obtain ⟨v', w', hrun, h2, h3, h4⟩ := run_app E o.type hown hr h1 hn hbase
  unfold Oper.wp execOp
  simp only [ho, resolve, invoke, builtin, Sem.run_bind, Sem.run_pure, Result.andThen_ok, List.map_toArray, List.map_cons, List.map_nil, hs, hx, hrun]
  exact hK _ _ (h v' w' h2 h3 h4)
theorem wpList_app0g {P : Program} {w : World} {t e : TypeId} {z : Value} {size bytes : Nat} {ops : Array Oper} {rest : List Oper} {o : Oper} {a : Act} {Q : Exit → Act → World → Prop} (hgd : Region.wanted o (yielded ops a.tmps) = true) (s x : Operand)
    (ho : o.op = .call { callee := .builtin .append, args := #[s, x], argTypes := #[t, t] })
    (E : Elem P t e z size bytes) {g : Nat} (hgz : w.heap.size = g) (hs : a.eval s = .slice (some ⟨g, 0, none⟩) 0 0)
    {S : Nat → Prop} {src : Value} {m : Nat} {news : List Value} (hr : Rd w S size src m news) (hx : a.eval x = src) (h1 : ∀ u ∈ news, u.oneCell' = true)
    (hn : m * bytes ≤ 140737488355328)
    (h : ∀ v' w', w'.ownsRow w.heap.size e size v' m news → Grow w w' → wpList P ops Q rest (a.put o.dst v') w') : wpList P ops Q (o :: rest) a (w.alloc (.cells #[] e)) := by
  subst hgz
  have hrow := World.ownsRow_lit (base := w.heap.size) (e := e) (size := size) w #[] 0 (Nat.le_refl _) (by decide) (by simp)
  refine wpList_appg hgd s x ho E hrow hs (hr.gr2 E.h0 ((Grow.refl w).al _)) hx h1 (by rw [Nat.zero_add]; exact hn) (by rw [World.size_alloc]; omega) fun v' w' k1 k2 k3 => ?_
  exact h v' w' (own_eq k1 (Nat.zero_add _) (by simp)) (grow_app ((Grow.refl w).al _) k2 (own_ge hrow))
theorem Fld.one (fs : List Fld) {w : World} {S : Nat → Prop} {v : Value} (h : Flds w S v fs) : ∀ u ∈ fs.flatMap Fld.cells, u.oneCell' = true := by
  intro u hu
  obtain ⟨f, hf, hu⟩ := List.mem_flatMap.1 hu
  obtain ⟨_, A, c, hv, _⟩ := (h.2 f hf).2.2.2
  obtain ⟨n, k, i, d, v⟩ := f
  dsimp only at hv
  subst hv
  simp only [Fld.cells, List.mem_cons, List.not_mem_nil, or_false] at hu
  rcases hu with rfl | rfl | rfl | rfl <;> rfl

set_option maxRecDepth 100000 in
set_option maxHeartbeats 4000000 in
theorem wireJoins_walk (a b : List UInt8) (va vb : Value) (S T : Nat → Prop) (w : World) (ha : Rd w S 1 va a.length (U8 a)) (hb : Rd w T 1 vb b.length (U8 b))
    {R : Ending → World → Prop} (hR : ∀ w', Grow w w' → R (.returned (.bool true)) w') :
    Calls Try.prog 10 #[va, vb] w R := by
  have HR := Lib.hid hR
  clear hR
  have HA := Lib.hid ha
  have HB := Lib.hid hb
  obtain ⟨_, A, c, rfl, h1, h2, _, _⟩ := ha
  obtain ⟨_, B, d, rfl, k1, k2, _, _⟩ := hb
  unfold maxLen at h2 k2
  by_cases hl : a.length ≤ 300
  · have t1 : decide (300 < (a.length : Int)) = false := by simp; omega
    by_cases hm : b.length ≤ 300
    · have t2 : decide (300 < (b.length : Int)) = false := by simp; omega
      have PA := fun {l} => @get_app a b l
      have BA := @get_bad a
      have BB := @get_bad b
      have PGa := fun {l} => @put_get a (by omega) l
      have PGb := fun {l} => @put_get b (by omega) l
      have H1 := fun (R : Ending → World → Prop) hR => get_any a _ S w HA.out (by omega) (R := R) hR
      have H2 := fun W (h : Grow w W) (R : Ending → World → Prop) hR => get_any b _ T W (HB.out.gr2 (by decide) h) (by omega) (R := R) hR
      have H3 := fun v S W (h : Rd W S 1 v (a ++ b).length (U8 (a ++ b))) (R : Ending → World → Prop) hR => get_any (a ++ b) v S W h (by simp; omega) (R := R) hR
      generalize hY : get (a ++ b) = Y at *
      generalize get a = X at *
      generalize get b = Z at *
      obtain ⟨y, g⟩ := Y
      obtain ⟨l, e⟩ := X
      obtain ⟨m, f⟩ := Z
      dsimp only at BA BB H1 H2 H3
      have H1 := Lib.hid H1
      have H2 := Lib.hid H2
      have H3 := Lib.hid H3
      have PA := Lib.hid fun he : e = 0 => PA (show (l, e) = (l, 0) by rw [he])
      have BA := Lib.hid BA
      have BB := Lib.hid BB
      have PGa := Lib.hid fun he : e = 0 => PGa (show (l, e) = (l, 0) by rw [he])
      have PGb := Lib.hid fun he : f = 0 => PGb (show (m, f) = (m, 0) by rw [he])
      go_enter Try.func10, Try.ntmps10
      go_wp2_with fail
      go_at_call 42
      refine H1.out _ ?_
      intro r1 f1 w1 hown1 hi1 he1 hg1
      try dsimp only at he1
      obtain ⟨A1, c1, rfl⟩ := own_slice hown1
      have HF1 := Lib.hid (Flds.of hown1 hi1)
      have HE1 := Lib.hid he1
      have G1 := Lib.hid hg1
      clear hown1 hi1 he1 hg1 H1
      go_wp2_with fail
      go_at_call 42
      refine H2.out _ G1.out _ ?_
      intro r2 f2 w2 hown2 hi2 he2 hg2
      try dsimp only at he2
      obtain ⟨A2, c2, rfl⟩ := own_slice hown2
      have HF2 := Lib.hid (Flds.of hown2 hi2)
      have HE2 := Lib.hid he2
      have G2 := Lib.hid (G1.out.tr hg2)
      have HF1 := Lib.hid (HF1.out.gr hg2)
      clear hown2 hi2 he2 hg2 H2
      go_wp2_with (at_builtin; first | (refine wpList_app0 rfl _ _ rfl el_u8 rfl rfl (HA.out.gr2 (by decide) G2.out) rfl (U8_one _) (by omega) ?_; intro r4 w4 hown4 hg4; have HO4 := Lib.hid hown4; have G4 := Lib.hid hg4; clear hown4 hg4) | (refine wpList_app rfl _ _ rfl el_u8 HO4.out rfl (HB.out.gr2 (by decide) (G2.out.tr G4.out)) rfl (U8_one _) (by omega) G4.out.size ?_; intro r5 w5 hown5 hg5 hb5))
      go_at_call 42
      have G5 := Lib.hid (grow_app G4.out hg5 (own_ge HO4.out))
      have HO5 := Lib.hid (show Rd w5 (fun _ => True) 1 r5 (a ++ b).length (U8 (a ++ b)) by rw [List.length_append, U8_app]; exact (Rd.own hown5).into fun _ _ => trivial)
      clear hown5 hg5 hb5 HO4
      refine H3.out _ _ _ HO5.out _ ?_
      intro r6 f6 w6 hown6 hi6 he6 hg6
      try dsimp only at he6
      obtain ⟨A6, c6, rfl⟩ := own_slice hown6
      have HF6 := Lib.hid (Flds.of hown6 hi6)
      have HE6 := Lib.hid he6
      have G6 := Lib.hid (G5.out.tr hg6)
      have HF1 := Lib.hid (HF1.out.gr G6.out)
      have HF2 := Lib.hid (HF2.out.gr G6.out)
      have G6 := Lib.hid (G2.out.tr G6.out)
      clear hown6 hi6 he6 hg6 H3 G5 HO5 G4
      have hyf := Lib.hid hY
      clear hY
      by_cases he : e = 0
      · subst he
        have PA := Lib.hid (PA.out rfl)
        by_cases hf : f = 0
        · subst hf
          have pe := PA.out
          simp only [shG, if_true, Prod.mk.injEq] at pe
          obtain ⟨rfl, rfl⟩ := pe
          have q1 := (PGa.out rfl)
          have q2 := (PGb.out rfl)
          have n1 := (fdput_all l q1.2.2).1
          have n2 := (fdput_all m q2.2.2).1
          have hl1 : f1.length = l.length := by rw [← HE1.out, List.length_map]
          have hl2 : f2.length = m.length := by rw [← HE2.out, List.length_map]
          have b1 : f1.length ≤ 300 := by omega
          have b2 : f2.length ≤ 300 := by omega
          clear q1 q2 n1 n2 hl1 hl2 PGa PGb PA BA BB
          go_wp2_with fail
          go_at_call 16
          refine code7_any _ _ ?_
          go_wp2_with fail
          go_at_call 16
          refine code7_any _ _ ?_
          go_wp2_with fail
          go_at_call 16
          refine code7_any _ _ ?_
          go_wp2_with (at_builtin; first | (refine wpList_app0g rfl _ _ rfl el_fld rfl rfl HF1.out.1 rfl (Fld.one _ HF1.out) (by omega) ?_; intro r7 w7 hown7 hg7; have HO7 := Lib.hid hown7; have G7 := Lib.hid hg7; clear hown7 hg7) | (refine wpList_appg rfl _ _ rfl el_fld HO7.out rfl (HF2.out.1.gr2 (by decide) G7.out) rfl (Fld.one _ HF2.out) (by omega) G7.out.size ?_; intro r8 w8 hown8 hg8 hb8))
          go_at_call 25
          have G8 := Lib.hid (grow_app G7.out hg8 (own_ge HO7.out))
          have HF8 : Hid (Flds w8 (fun _ => True) r8 (f1 ++ f2)) := ⟨by
            rw [List.length_append, List.flatMap_append]
            exact (Rd.own hown8).into fun _ _ => trivial, fun q hq => by
            rcases List.mem_append.1 hq with hq | hq
            · exact (HF1.out.gr G8.out).2 q hq
            · exact (HF2.out.gr G8.out).2 q hq⟩
          clear hown8 hg8 hb8 HO7
          refine rsame_any f6 (f1 ++ f2) _ _ _ _ w8 (HF6.out.gr G8.out) HF8.out ?_
          rw [eqBy_fd _ _ (by rw [List.map_append, HE1.out, HE2.out]; exact HE6.out)]
          intro w10 hg10
          have G10 := Lib.hid ((G6.out.tr G8.out).tr hg10)
          clear hg10
          go_wp2_with fail
          go_at_call 11
          refine live_any _ ?_
          intro w9 hg9
          have HG9 := Lib.hid hg9
          clear hg9
          go_wp2
          exact HR.out _ (G10.out.tr HG9.out)
        · have t3 : (f != 0) = true := by simp [hf]
          have hmz := BB.out hf
          have pe := PA.out
          simp only [shG, if_neg hf, Prod.mk.injEq] at pe
          obtain ⟨rfl, rfl⟩ := pe
          have hl6 : f6.length = 0 := by have := HE6.out; simpa using congrArg List.length this
          rw [hl6]
          have h60 : ((0 : Nat) : Int) = 0 := rfl
          clear hf PGa PGb PA BA BB HF6
          go_wp2_with fail
          go_at_call 16
          refine code7_any _ _ ?_
          go_wp2_with fail
          go_at_call 16
          refine code7_any _ _ ?_
          go_wp2_with fail
          go_at_call 16
          refine code7_any _ _ ?_
          go_wp2_with fail
          go_at_call 16
          refine code7_any _ _ ?_
          go_wp2_with fail
          go_at_call 11
          refine live_any _ ?_
          intro w9 hg9
          have HG9 := Lib.hid hg9
          clear hg9
          go_wp2
          exact HR.out _ (G6.out.tr HG9.out)
      · have t3 : (e != 0) = true := by simp [he]
        have hmz := BA.out he
        have hl1 : f1.length = 0 := by have := HE1.out; rw [hmz] at this; simpa using congrArg List.length this
        rw [hl1]
        clear he hmz PGa PGb PA BA BB HF1
        go_wp2_with fail
        go_at_call 16
        refine code7_any _ _ ?_
        go_wp2_with fail
        go_at_call 11
        refine live_any _ ?_
        intro w9 hg9
        have HG9 := Lib.hid hg9
        clear hg9
        go_wp2
        exact HR.out _ (G6.out.tr HG9.out)
    · have t2 : decide (300 < (b.length : Int)) = true := by simp; omega
      go_enter Try.func10, Try.ntmps10
      go_wp2_with fail
      go_at_call 11
      refine live_any _ ?_
      intro w9 hg9
      have HG9 := Lib.hid hg9
      clear hg9
      go_wp2
      exact HR.out _ (HG9.out)
  · have t1 : decide (300 < (a.length : Int)) = true := by simp; omega
    go_enter Try.func10, Try.ntmps10
    go_wp2_with fail
    go_at_call 11
    refine live_any _ ?_
    intro w9 hg9
    have HG9 := Lib.hid hg9
    clear hg9
    go_wp2
    exact HR.out _ (HG9.out)
end Go.Proofs.Ytehffeglgdcogaa
