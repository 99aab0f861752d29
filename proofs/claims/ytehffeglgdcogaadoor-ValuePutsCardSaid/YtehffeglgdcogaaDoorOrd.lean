/-
  Values of attributes: Order.
-/
import Derived.Test.YtehffeglgdcogaaDoorChecked
import Derived.Test.YtehffeglgdcogaaDoorVal
import Derived.Test.YtehffeglgdcogaaDoorVShelf
namespace Go.Proofs.YtehffeglgdcogaaDoor
open Go.RowKit B

theorem rd_slice {w : World} {S : Nat → Prop} {size n : Nat} {v : Value} {xs : List Value} (h : Rd w S size v n xs) : ∃ A c, v = .slice A n c ∧ n ≤ c ∧ c ≤ 9223372036854775807 := by
  obtain ⟨_, A, c, h, h1, h2, _⟩ := h
  exact ⟨A, c, h, h1, h2⟩
theorem rd_at {w wr : World} {S : Nat → Prop} {A : Option Addr} {n c : Nat} {xs : List Value} (h : Rd w S 1 (.slice A n c) n xs) (hg : Grow w wr) {j : Nat} {u : Value} (hj : xs[j]? = some u) : ∃ b o, A = some ⟨b, o, none⟩ ∧ wr.cell? ⟨b, o + j, none⟩ = some u := by
  obtain ⟨hl, A', c', hv, h1, h2, h3, h4⟩ := h.gr2 (by decide) hg
  injection hv with e1 _ _
  subst e1
  have hlt := (List.getElem?_eq_some_iff.1 hj).1
  obtain ⟨b, o, rfl, _, hc⟩ := h4 (by omega)
  exact ⟨b, o, rfl, hc j u hj⟩
def cmpI' (a b : Int) : Int := if a < b then -1 else if b < a then 1 else 0
set_option maxRecDepth 100000 in
set_option maxHeartbeats 1000000 in
theorem cmpI_any (a b : Int) (w : World) {R : Ending → World → Prop} (hR : R (.returned (.int .i64 (cmpI' a b))) w) :
    Calls Tryd.prog 23 #[.int .i64 a, .int .i64 b] w R := by
  have HR1 : ∀ n, cmpI' a b = n → R (.returned (.int .i64 n)) w := by rintro n rfl; exact hR
  have HR := Lib.hid HR1
  clear hR HR1
  by_cases h1 : a < b
  · go_enter Tryd.func23, Tryd.ntmps23
    go_wp2
    exact HR.out _ (by unfold cmpI'; rw [if_pos h1])
  · by_cases h2 : b < a
    · go_enter Tryd.func23, Tryd.ntmps23
      go_wp2
      exact HR.out _ (by unfold cmpI'; rw [if_neg (by omega), if_pos h2])
    · go_enter Tryd.func23, Tryd.ntmps23
      go_wp2
      exact HR.out _ (by unfold cmpI'; rw [if_neg (by omega), if_neg (by omega)])
set_option maxRecDepth 100000 in
set_option maxHeartbeats 1000000 in
theorem cmpU_any (a b : Int) (w : World) {R : Ending → World → Prop} (hR : R (.returned (.int .i64 (cmpI' a b))) w) :
    Calls Tryd.prog 25 #[.int .u64 a, .int .u64 b] w R := by
  have HR1 : ∀ n, cmpI' a b = n → R (.returned (.int .i64 n)) w := by rintro n rfl; exact hR
  have HR := Lib.hid HR1
  clear hR HR1
  by_cases h1 : a < b
  · go_enter Tryd.func25, Tryd.ntmps25
    go_wp2
    exact HR.out _ (by unfold cmpI'; rw [if_pos h1])
  · by_cases h2 : b < a
    · go_enter Tryd.func25, Tryd.ntmps25
      go_wp2
      exact HR.out _ (by unfold cmpI'; rw [if_neg (by omega), if_pos h2])
    · go_enter Tryd.func25, Tryd.ntmps25
      go_wp2
      exact HR.out _ (by unfold cmpI'; rw [if_neg (by omega), if_neg (by omega)])
def orL : List Int → Int
  | [] => 0
  | x :: t => if x ≠ 0 then x else orL t
set_option maxRecDepth 100000 in
set_option maxHeartbeats 1000000 in
theorem or_any (l : List Int) (v : Value) (S : Nat → Prop) (w : World) (hb : Rd w S 1 v l.length (l.map fun n => .int .i64 n)) (hl : l.length ≤ 16) {R : Ending → World → Prop} (hR : R (.returned (.int .i64 (orL l))) w) :
    Calls Tryd.prog 22 #[v] w R := by
  have HR := Lib.hid hR
  clear hR
  obtain ⟨A, c, rfl, h1, h2⟩ := rd_slice hb
  have HB := Lib.hid hb
  clear hb
  go_enter Tryd.func22, Tryd.ntmps22
  go_wp2
  go_loopw [8] (fun s8 wr => ∃ k : Nat, k ≤ l.length ∧ s8 = .int .i64 k ∧ Hid (orL l = orL (l.drop k)) ∧ wr = w) (fun s8 _ => l.length - (intOf s8).toNat)
  case atStart => exact ⟨0, Nat.zero_le _, rfl, rfl, rfl⟩
  case round =>
    obtain ⟨k, hk, rfl, ho, rfl⟩ := hrel
    by_cases hlt : k < l.length
    · obtain ⟨b, o, rfl, d1⟩ := rd_at HB.out (Grow.refl wr) (j := k) (u := .int .i64 (l[k]'hlt)) (by simp [hlt])
      have e : Hid (orL (l.drop k) = if (l[k]'hlt) ≠ 0 then (l[k]'hlt) else orL (l.drop (k + 1))) := by
        show _ = _
        rw [List.drop_eq_getElem_cons hlt]; rfl
      generalize l[k]'hlt = x at *
      by_cases h0 : x = 0
      · subst h0
        go_wp2
        go_roundw
        case rel => exact ⟨k + 1, by omega, by go_num, by show _ = _; rw [ho.out, e.out]; rfl, by first | rfl | trivial⟩
        case measure => simp [intOf]; omega
      · have t0 : (x != 0) = true := by simp [h0]
        have h := HR.out
        rw [ho.out, e.out, if_pos h0] at h
        clear h0 e
        go_wp2
        exact h
    · obtain rfl : k = l.length := by omega
      have h := HR.out
      rw [ho.out, List.drop_length] at h
      go_wp2
      exact h

theorem scmp_any (s t : ByteArray) (w : World) {R : Ending → World → Prop} (hR : R (.returned (.int .i64 (Lib.compareBytes s.data.toList t.data.toList))) w) :
    Calls Tryd.prog 24 #[.string s, .string t] w R := by
  have h : Calls Tryd.prog 24 #[.string s, .string t] w _ := Any.strings_Compare Tryd.laysCompare s t w
  refine h.mono ?_
  rintro e w' ⟨rfl, rfl⟩
  exact hR

def orderV (x y : Val) : Int := orL [cmpI' (plainV x).k (plainV y).k, Lib.compareBytes (plainV x).t.data.toList (plainV y).t.data.toList, cmpI' (plainV x).b (plainV y).b]
set_option maxRecDepth 100000 in
set_option maxHeartbeats 4000000 in
theorem order_any (x y : Val) (w : World) {R : Ending → World → Prop} (hR : ∀ w', Grow w w' → R (.returned (.int .i64 (orderV x y))) w') :
    Calls Tryd.prog 7 #[x.v, y.v] w R := by
  have HR := Lib.hid hR
  clear hR
  have PX := Lib.hid fun W (R : Ending → World → Prop) hR => plain_any x W (R := R) hR
  have PY := Lib.hid fun W (R : Ending → World → Prop) hR => plain_any y W (R := R) hR
  unfold orderV at HR
  obtain ⟨p, hp⟩ : ∃ p, plainV x = p := ⟨_, rfl⟩
  obtain ⟨q, hq⟩ : ∃ q, plainV y = q := ⟨_, rfl⟩
  rw [hp, hq] at HR
  rw [hp] at PX
  rw [hq] at PY
  clear hp hq
  obtain ⟨k1, s1, b1⟩ := x
  obtain ⟨k2, s2, b2⟩ := y
  obtain ⟨pk, pt, pb⟩ := p
  obtain ⟨qk, qt, qb⟩ := q
  unfold Val.v at *
  dsimp only at *
  have C1 := Lib.hid fun W (R : Ending → World → Prop) hR => cmpI_any pk qk W (R := R) hR
  have C2 := Lib.hid fun W (R : Ending → World → Prop) hR => scmp_any pt qt W (R := R) hR
  have C3 := Lib.hid fun W (R : Ending → World → Prop) hR => cmpU_any pb qb W (R := R) hR
  have OR := Lib.hid fun v S W h (R : Ending → World → Prop) hR => or_any [cmpI' pk qk, Lib.compareBytes pt.data.toList qt.data.toList, cmpI' pb qb] v S W h (by simp) (R := R) hR
  generalize orL [cmpI' pk qk, Lib.compareBytes pt.data.toList qt.data.toList, cmpI' pb qb] = m at *
  generalize cmpI' pk qk = m1 at *
  generalize Lib.compareBytes pt.data.toList qt.data.toList = m2 at *
  generalize cmpI' pb qb = m3 at *
  have BX := Lib.hid ((BoxH.laid #[.int .i64 k1, .string s1, .int .u64 b1] 24 (Grow.refl w)).tr ((Grow.refl _).al (.cells #[.int .i64 k2, .string s2, .int .u64 b2] 24)))
  have BY : Hid (BoxH w (w.heap.size + 1) #[.int .i64 k2, .string s2, .int .u64 b2] 24 ((w.alloc (.cells #[.int .i64 k1, .string s1, .int .u64 b1] 24)).alloc (.cells #[.int .i64 k2, .string s2, .int .u64 b2] 24))) := by
    have := BoxH.laid (w := w.alloc (.cells #[.int .i64 k1, .string s1, .int .u64 b1] 24)) #[.int .i64 k2, .string s2, .int .u64 b2] 24 ((Grow.refl w).al _)
    rw [World.size_alloc] at this
    exact this
  go_enter Tryd.func7, Tryd.ntmps7
  go_wp2_with fail
  generalize (w.alloc (.cells #[.int .i64 k1, .string s1, .int .u64 b1] 24)).alloc (.cells #[.int .i64 k2, .string s2, .int .u64 b2] 24) = wa at *
  have NN : Hid (w.heap.size < w.heap.size + 1) := Nat.lt_succ_self _
  generalize w.heap.size + 1 = sb at *
  refine wp_region_lexT (fun W => BoxH w w.heap.size #[.int .i64 k1, .string s1, .int .u64 b1] 24 W ∧ BoxH w sb #[.int .i64 k2, .string s2, .int .u64 b2] 24 W) (⟨BX.out.tr (Grow.refl _).dr, BY.out.tr (Grow.refl _).dr⟩) 3 [0, 2, 1] (by kernel_rfl) (by kernel_rfl) (by intro c a d v w h; cases d <;> exact h) ?_
  iterate 2 (apply lext_take; exact rfl; exact rfl; (intro W hW; have x0 := hW.1.cell 0; have x1 := hW.1.cell 1; have x2 := hW.1.cell 2; have y0 := hW.2.cell 0; have y1 := hW.2.cell 1; have y2 := hW.2.cell 2; (try clear hW); go_simp; with_reducible rfl); try simp only [Act.put, List.setIfInBounds_toArray, List.set_cons_zero, List.set_cons_succ])
  apply lext_turn; exact rfl; exact rfl; exact rfl; intro K hK; go_simp; go_at_call 20; refine PX.out _ _ ?_
  intro w1 hg1
  have GX := Lib.hid (BX.out.tr ((Grow.refl _).dr.tr hg1))
  have GY := Lib.hid (BY.out.tr ((Grow.refl _).dr.tr hg1))
  refine hK.out _ _ ⟨GX.out, GY.out⟩ ?_
  clear hK hg1
  try simp only [Act.put, List.setIfInBounds_toArray, List.set_cons_zero, List.set_cons_succ]
  refine lext_nil ?_
  simp only [List.drop_succ_cons, List.drop_zero]
  go_wp2_with fail
  go_at_call 20
  refine PY.out _ _ ?_
  intro w2 hg2
  have BX2 := Lib.hid (GX.out.tr hg2)
  have BY2 := Lib.hid (GY.out.tr hg2)
  clear hg2 GX GY BX BY PX PY
  have n1 : sb ≠ w.heap.size := by have := NN.out; omega
  have n2 : w.heap.size ≠ sb := by have := NN.out; omega
  have x0 := BX2.out.cell 0
  have x1 := BX2.out.cell 1
  have x2 := BX2.out.cell 2
  have y0 := BY2.out.cell 0
  have y1 := BY2.out.cell 1
  have y2 := BY2.out.cell 2
  have f0 := BX2.out.free 0
  have f1 := (BX2.out.set 0 (.int .i64 pk)).free 1
  have f2 := ((BX2.out.set 0 (.int .i64 pk)).set 1 (.string pt)).free 2
  have BX3 : Hid (BoxH w w.heap.size #[.int .i64 pk, .string pt, .int .u64 pb] 24 (((w2.setCell ⟨w.heap.size, 0, none⟩ (.int .i64 pk)).setCell ⟨w.heap.size, 1, none⟩ (.string pt)).setCell ⟨w.heap.size, 2, none⟩ (.int .u64 pb))) := ((BX2.out.set 0 (.int .i64 pk)).set 1 (.string pt)).set 2 (.int .u64 pb)
  have BY3 : Hid (BoxH w sb #[.int .i64 k2, .string s2, .int .u64 b2] 24 (((w2.setCell ⟨w.heap.size, 0, none⟩ (.int .i64 pk)).setCell ⟨w.heap.size, 1, none⟩ (.string pt)).setCell ⟨w.heap.size, 2, none⟩ (.int .u64 pb))) := ((BY2.out.other n1 (Nat.le_refl _)).other n1 (Nat.le_refl _)).other n1 (Nat.le_refl _)
  have g0 := BY3.out.free 0
  have g1 := (BY3.out.set 0 (.int .i64 qk)).free 1
  have g2 := ((BY3.out.set 0 (.int .i64 qk)).set 1 (.string qt)).free 2
  go_wp2_with fail
  have BX4 : Hid (BoxH w w.heap.size #[.int .i64 pk, .string pt, .int .u64 pb] 24 ((((((w2.setCell ⟨w.heap.size, 0, none⟩ (.int .i64 pk)).setCell ⟨w.heap.size, 1, none⟩ (.string pt)).setCell ⟨w.heap.size, 2, none⟩ (.int .u64 pb)).setCell ⟨sb, 0, none⟩ (.int .i64 qk)).setCell ⟨sb, 1, none⟩ (.string qt)).setCell ⟨sb, 2, none⟩ (.int .u64 qb))) := ((BX3.out.other n2 BY3.out.2.1).other n2 BY3.out.2.1).other n2 BY3.out.2.1
  have BY4 : Hid (BoxH w sb #[.int .i64 qk, .string qt, .int .u64 qb] 24 ((((((w2.setCell ⟨w.heap.size, 0, none⟩ (.int .i64 pk)).setCell ⟨w.heap.size, 1, none⟩ (.string pt)).setCell ⟨w.heap.size, 2, none⟩ (.int .u64 pb)).setCell ⟨sb, 0, none⟩ (.int .i64 qk)).setCell ⟨sb, 1, none⟩ (.string qt)).setCell ⟨sb, 2, none⟩ (.int .u64 qb))) := ((BY3.out.set 0 (.int .i64 qk)).set 1 (.string qt)).set 2 (.int .u64 qb)
  clear x0 x1 x2 y0 y1 y2 f0 f1 f2 g0 g1 g2 BX3 BY3 BX2 BY2 n1 n2
  generalize (((((w2.setCell ⟨w.heap.size, 0, none⟩ (.int .i64 pk)).setCell ⟨w.heap.size, 1, none⟩ (.string pt)).setCell ⟨w.heap.size, 2, none⟩ (.int .u64 pb)).setCell ⟨sb, 0, none⟩ (.int .i64 qk)).setCell ⟨sb, 1, none⟩ (.string qt)).setCell ⟨sb, 2, none⟩ (.int .u64 qb) = w4 at *
  refine wp_region_lexT (fun W => BoxH w w.heap.size #[.int .i64 pk, .string pt, .int .u64 pb] 24 W ∧ BoxH w sb #[.int .i64 qk, .string qt, .int .u64 qb] 24 W) (⟨BX4.out.tr (Grow.refl _).dr, BY4.out.tr (Grow.refl _).dr⟩) 14 [0, 1, 2, 3, 5, 6, 7, 8, 10, 11, 12, 13, 4, 9] (by kernel_rfl) (by kernel_rfl) (by intro c a d v w h; cases d <;> exact h) ?_
  iterate 12 (apply lext_take; exact rfl; exact rfl; (intro W hW; have x0 := hW.1.cell 0; have x1 := hW.1.cell 1; have x2 := hW.1.cell 2; have y0 := hW.2.cell 0; have y1 := hW.2.cell 1; have y2 := hW.2.cell 2; (try clear hW); go_simp; with_reducible rfl); try simp only [Act.put, List.setIfInBounds_toArray, List.set_cons_zero, List.set_cons_succ])
  have GG := Lib.hid (show BoxH w w.heap.size #[.int .i64 pk, .string pt, .int .u64 pb] 24 w4.drew ∧ BoxH w sb #[.int .i64 qk, .string qt, .int .u64 qb] 24 w4.drew from ⟨BX4.out.tr (Grow.refl _).dr, BY4.out.tr (Grow.refl _).dr⟩)
  clear BX4 BY4
  generalize w4.drew = w5 at *
  apply lext_turn; exact rfl; exact rfl; exact rfl; intro K hK; go_simp; go_at_call 23; refine C1.out _ _ ?_; refine hK.out _ _ GG.out ?_; clear hK
  try simp only [Act.put, List.setIfInBounds_toArray, List.set_cons_zero, List.set_cons_succ]
  apply lext_turn; exact rfl; exact rfl; exact rfl; intro K hK; go_simp; go_at_call 24; refine C2.out _ _ ?_; refine hK.out _ _ GG.out ?_; clear hK
  try simp only [Act.put, List.setIfInBounds_toArray, List.set_cons_zero, List.set_cons_succ]
  refine lext_nil ?_
  simp only [List.drop_succ_cons, List.drop_zero]
  go_wp2_with fail
  go_at_call 25
  refine C3.out _ _ ?_
  go_wp2_with fail
  go_at_call 22
  refine OR.out _ _ _ (Rd.lit w5 #[.int .i64 m1, .int .i64 m2, .int .i64 m3] 3 3 (by decide) rfl) _ ?_
  go_wp2
  exact HR.out _ (GG.out.1.grow.al _)
end Go.Proofs.YtehffeglgdcogaaDoor
