/-
  Values of attributes: the reference's Order, and that it is the program's.
-/
import Derived.Test.YtehffeglgdcogaaDoorChecked
import Derived.Test.YtehffeglgdcogaaDoorLess
namespace Go.Proofs.YtehffeglgdcogaaDoor
open Go.RowKit B

def rorderV (x y : Val) : Int := if plainV x = plainV y then 0 else if x.k < y.k ∨ (x.k = y.k ∧ ((x.k = 1 ∧ Lib.compareBytes x.t.data.toList y.t.data.toList = -1) ∨ (x.k ≠ 1 ∧ x.b < y.b))) then -1 else 1

set_option maxRecDepth 100000 in
set_option maxHeartbeats 4000000 in
theorem rorder_any (x y : Val) (hs : x.t.size ≤ 9223372036854775807) (ht : y.t.size ≤ 9223372036854775807) (w : World) {R : Ending → World → Prop} (hR : ∀ w', Grow w w' → R (.returned (.int .i64 (rorderV x y))) w') :
    Calls Tryd.prog 10 #[x.v, y.v] w R := by
  have HR1 : ∀ n, rorderV x y = n → ∀ w', Grow w w' → R (.returned (.int .i64 n)) w' := by rintro n rfl; exact hR
  have HR := Lib.hid HR1
  clear hR HR1
  have SM := Lib.hid fun W (R : Ending → World → Prop) hR => rsame_any x y W (R := R) hR
  have LS := Lib.hid fun W (R : Ending → World → Prop) hR => less_any x.t y.t hs ht W (R := R) hR
  clear hs ht
  have RT : Hid (plainV x = plainV y → rorderV x y = 0) := fun h => by unfold rorderV; rw [if_pos h]
  have RF : Hid (¬ plainV x = plainV y → rorderV x y = if x.k < y.k ∨ (x.k = y.k ∧ ((x.k = 1 ∧ Lib.compareBytes x.t.data.toList y.t.data.toList = -1) ∨ (x.k ≠ 1 ∧ x.b < y.b))) then -1 else 1) := fun h => by unfold rorderV; rw [if_neg h]
  by_cases hp : plainV x = plainV y
  · have HP := Lib.hid (RT.out hp)
    rw [decide_eq_true hp] at SM
    clear hp RT RF LS
    generalize rorderV x y = m at *
    obtain ⟨k1, s1, b1⟩ := x
    obtain ⟨k2, s2, b2⟩ := y
    unfold Val.v at *
    dsimp only at *
    have G0 := Lib.hid (((Grow.refl w).al (.cells #[.int .i64 k1, .string s1, .int .u64 b1] 24)).al (.cells #[.int .i64 k2, .string s2, .int .u64 b2] 24))
    go_enter Tryd.func10, Tryd.ntmps10
    go_wp2_with fail
    go_at_call 9
    refine SM.out _ _ ?_
    intro w1 hg1
    go_wp2
    exact HR.out 0 HP.out _ (G0.out.tr hg1)
  · have HP := Lib.hid (RF.out hp)
    rw [decide_eq_false hp] at SM
    clear hp RT RF
    generalize rorderV x y = m at *
    obtain ⟨k1, s1, b1⟩ := x
    obtain ⟨k2, s2, b2⟩ := y
    unfold Val.v at *
    dsimp only at *
    have BX := Lib.hid ((BoxH.laid #[.int .i64 k1, .string s1, .int .u64 b1] 24 (Grow.refl w)).tr ((Grow.refl _).al (.cells #[.int .i64 k2, .string s2, .int .u64 b2] 24)))
    have BY : Hid (BoxH w (w.heap.size + 1) #[.int .i64 k2, .string s2, .int .u64 b2] 24 ((w.alloc (.cells #[.int .i64 k1, .string s1, .int .u64 b1] 24)).alloc (.cells #[.int .i64 k2, .string s2, .int .u64 b2] 24))) := by
      have := BoxH.laid (w := w.alloc (.cells #[.int .i64 k1, .string s1, .int .u64 b1] 24)) #[.int .i64 k2, .string s2, .int .u64 b2] 24 ((Grow.refl w).al _)
      rw [World.size_alloc] at this
      exact this
    go_enter Tryd.func10, Tryd.ntmps10
    go_wp2_with fail
    generalize (w.alloc (.cells #[.int .i64 k1, .string s1, .int .u64 b1] 24)).alloc (.cells #[.int .i64 k2, .string s2, .int .u64 b2] 24) = wa at *
    have x0 := BX.out.cell 0
    have x1 := BX.out.cell 1
    have x2 := BX.out.cell 2
    have y0 := BY.out.cell 0
    have y1 := BY.out.cell 1
    have y2 := BY.out.cell 2
    go_at_call 9
    refine SM.out _ _ ?_
    intro w1 hg1
    have BX1 := Lib.hid (BX.out.tr hg1)
    have BY1 := Lib.hid (BY.out.tr hg1)
    clear hg1 BX BY x0 x1 x2 y0 y1 y2
    have x0 := BX1.out.cell 0
    have x1 := BX1.out.cell 1
    have x2 := BX1.out.cell 2
    have y0 := BY1.out.cell 0
    have y1 := BY1.out.cell 1
    have y2 := BY1.out.cell 2
    by_cases h1 : k1 < k2
    · have t1 : decide (k1 < k2) = true := decide_eq_true h1
      have HQ : Hid (m = -1) := by show _ = _; rw [HP.out, if_pos (.inl h1)]
      clear h1
      go_wp2
      exact HR.out _ HQ.out _ BX1.out.grow
    · have t1 : decide (k1 < k2) = false := decide_eq_false h1
      by_cases h2 : k1 = k2
      · have t2 : (k1 == k2) = true := by rw [beq_iff_eq]; exact h2
        by_cases h3 : k1 = 1
        · have t3 : (k1 == 1) = true := by rw [beq_iff_eq]; exact h3
          by_cases h4 : Lib.compareBytes s1.data.toList s2.data.toList = -1
          · rw [decide_eq_true h4] at LS
            have HQ : Hid (m = -1) := by show _ = _; rw [HP.out, if_pos (.inr ⟨h2, .inl ⟨h3, h4⟩⟩)]
            clear h1 h2 h3 h4
            go_wp2_with (go_at_call 26; refine LS.out _ _ ?_; intro w2 hg2; have BX2 := Lib.hid (BX1.out.tr hg2); have BY2 := Lib.hid (BY1.out.tr hg2); have x0' := BX2.out.cell 0; have x1' := BX2.out.cell 1; have x2' := BX2.out.cell 2; have y0' := BY2.out.cell 0; have y1' := BY2.out.cell 1; have y2' := BY2.out.cell 2; clear hg2)
            exact HR.out _ HQ.out _ BX2.out.grow
          · rw [decide_eq_false h4] at LS
            have t5 : (k1 != 1) = false := by rw [bne_eq_false_iff_eq]; exact h3
            have HQ : Hid (m = 1) := by
              show _ = _
              rw [HP.out, if_neg]
              rintro (h | ⟨-, ⟨-, h⟩ | ⟨h, -⟩⟩)
              · exact h1 h
              · exact h4 h
              · exact h h3
            clear h1 h2 h3 h4
            go_wp2_with (go_at_call 26; refine LS.out _ _ ?_; intro w2 hg2; have BX2 := Lib.hid (BX1.out.tr hg2); have BY2 := Lib.hid (BY1.out.tr hg2); have x0' := BX2.out.cell 0; have x1' := BX2.out.cell 1; have x2' := BX2.out.cell 2; have y0' := BY2.out.cell 0; have y1' := BY2.out.cell 1; have y2' := BY2.out.cell 2; clear hg2)
            exact HR.out _ HQ.out _ BX2.out.grow
        · have t3 : (k1 == 1) = false := by rw [beq_eq_false_iff_ne]; exact h3
          have t5 : (k1 != 1) = true := by rw [bne_iff_ne]; exact h3
          by_cases h4 : b1 < b2
          · have t4 : decide (b1 < b2) = true := decide_eq_true h4
            have HQ : Hid (m = -1) := by show _ = _; rw [HP.out, if_pos (.inr ⟨h2, .inr ⟨h3, h4⟩⟩)]
            clear h1 h2 h3 h4
            go_wp2
            exact HR.out _ HQ.out _ BX1.out.grow
          · have t4 : decide (b1 < b2) = false := decide_eq_false h4
            have HQ : Hid (m = 1) := by
              show _ = _
              rw [HP.out, if_neg]
              rintro (h | ⟨-, ⟨h, -⟩ | ⟨-, h⟩⟩)
              · exact h1 h
              · exact h3 h
              · exact h4 h
            clear h1 h2 h3 h4
            go_wp2
            exact HR.out _ HQ.out _ BX1.out.grow
      · have t2 : (k1 == k2) = false := by rw [beq_eq_false_iff_ne]; exact h2
        have HQ : Hid (m = 1) := by
          show _ = _
          rw [HP.out, if_neg]
          rintro (h | ⟨h, -⟩)
          · exact h1 h
          · exact h2 h
        clear h1 h2
        go_wp2
        exact HR.out _ HQ.out _ BX1.out.grow

/- the plain law -/
theorem cmpB_self : ∀ a : List UInt8, Lib.compareBytes a a = 0
  | [] => rfl
  | x :: a => by simp only [Lib.compareBytes]; rw [if_neg (UInt8.lt_irrefl x), if_neg (UInt8.lt_irrefl x), cmpB_self a]
theorem cmpB_vals : ∀ a b : List UInt8, Lib.compareBytes a b = -1 ∨ Lib.compareBytes a b = 0 ∨ Lib.compareBytes a b = 1
  | [], [] => by simp [Lib.compareBytes]
  | [], _ :: _ => by simp [Lib.compareBytes]
  | _ :: _, [] => by simp [Lib.compareBytes]
  | x :: a, y :: b => by
    simp only [Lib.compareBytes]
    split
    · exact .inl rfl
    · split
      · exact .inr (.inr rfl)
      · exact cmpB_vals a b
theorem cmpB_zero : ∀ a b : List UInt8, Lib.compareBytes a b = 0 → a = b
  | [], [], _ => rfl
  | [], _ :: _, h => by simp [Lib.compareBytes] at h
  | _ :: _, [], h => by simp [Lib.compareBytes] at h
  | x :: a, y :: b, h => by
    simp only [Lib.compareBytes] at h
    split at h
    · omega
    · split at h
      · omega
      · rename_i h1 h2
        have : x = y := UInt8.le_antisymm (UInt8.not_lt.1 h2) (UInt8.not_lt.1 h1)
        rw [this, cmpB_zero a b h]
theorem cmpB_neg : ∀ a b : List UInt8, Lib.compareBytes b a = - Lib.compareBytes a b
  | [], [] => rfl
  | [], _ :: _ => by simp [Lib.compareBytes]
  | _ :: _, [] => by simp [Lib.compareBytes]
  | x :: a, y :: b => by
    simp only [Lib.compareBytes]
    by_cases h1 : x < y
    · have h2 : ¬ y < x := fun h => UInt8.lt_irrefl _ (UInt8.lt_trans h1 h)
      rw [if_neg h2, if_pos h1, if_pos h1]; rfl
    · by_cases h2 : y < x
      · rw [if_pos h2, if_neg h1, if_pos h2]
      · rw [if_neg h2, if_neg h1, if_neg h1, if_neg h2, cmpB_neg a b]
theorem cmpB_trans : ∀ a b c : List UInt8, Lib.compareBytes a b ≤ 0 → Lib.compareBytes b c ≤ 0 → Lib.compareBytes a c ≤ 0
  | [], _, [], _, _ => by simp [Lib.compareBytes]
  | [], _, _ :: _, _, _ => by simp [Lib.compareBytes]
  | _ :: _, [], _, h, _ => by simp [Lib.compareBytes] at h
  | _ :: _, _ :: _, [], _, h => by simp [Lib.compareBytes] at h
  | x :: a, y :: b, z :: c, h1, h2 => by
    simp only [Lib.compareBytes] at h1 h2 ⊢
    by_cases hxy : x < y
    · by_cases hyz : y < z
      · rw [if_pos (UInt8.lt_trans hxy hyz)]; decide
      · rw [if_neg hyz] at h2
        by_cases hzy : z < y
        · rw [if_pos hzy] at h2; omega
        · have : y = z := UInt8.le_antisymm (UInt8.not_lt.1 hzy) (UInt8.not_lt.1 hyz)
          rw [if_pos (this ▸ hxy)]; decide
    · rw [if_neg hxy] at h1
      by_cases hyx : y < x
      · rw [if_pos hyx] at h1; omega
      · have e : x = y := UInt8.le_antisymm (UInt8.not_lt.1 hyx) (UInt8.not_lt.1 hxy)
        subst e
        rw [if_neg hyx] at h1
        by_cases hyz : x < z
        · rw [if_pos hyz]; decide
        · rw [if_neg hyz] at h2 ⊢
          by_cases hzy : z < x
          · rw [if_pos hzy] at h2; omega
          · rw [if_neg hzy] at h2 ⊢
            exact cmpB_trans a b c h1 h2
end Go.Proofs.YtehffeglgdcogaaDoor
