/-
  Attributes: keys and values. The reference's SameAttrs.
-/
import Derived.Test.YtjalimkajcjapaaDoorChecked
import Derived.Test.YtjalimkajcjapaaDoorVal
import Derived.Test.YtjalimkajcjapaaDoorRowsA
namespace Go.Proofs.YtjalimkajcjapaaDoor
open Go.RowKit B

structure Atr where
  key : ByteArray
  val : Val
def Atr.cells (a : Atr) : List Value := [.string a.key, .int .i64 a.val.k, .string a.val.t, .int .u64 a.val.b]
theorem Atr.cells_len (a : Atr) : a.cells.length = 4 := rfl
def Atrs (l : List Atr) : List Value := l.flatMap Atr.cells
def Atr.ok (a : Atr) : Prop := a.key.size ≤ maxLen ∧ I64 a.val.k ∧ U64 a.val.b ∧ a.val.t.size ≤ maxLen
/-- what counts of an attribute -/
def Atr.pl (a : Atr) : ByteArray × Val := (a.key, plainV a.val)
instance (a b : List Atr) : Decidable (a.map Atr.pl = b.map Atr.pl) := inferInstance
theorem Atrs_len (l : List Atr) : (Atrs l).length = l.length * 4 := flat_len _ _ Atr.cells_len l
theorem Atrs_one {l : List Atr} : ∀ u ∈ Atrs l, u.oneCell' = true := by
  intro u hu
  obtain ⟨a, _, ha⟩ := List.mem_flatMap.1 hu
  simp only [Atr.cells, List.mem_cons, List.not_mem_nil, or_false] at ha
  rcases ha with rfl | rfl | rfl | rfl <;> rfl
end Go.Proofs.YtjalimkajcjapaaDoor

namespace Go.Proofs.YtjalimkajcjapaaDoor
open Go.RowKit B

theorem take_pl {A B : List Atr} {k : Nat} (h1 : k < A.length) (h2 : k < B.length) (ht : (A.take k).map Atr.pl = (B.take k).map Atr.pl) (he : A[k].pl = B[k].pl) : (A.take (k + 1)).map Atr.pl = (B.take (k + 1)).map Atr.pl := by
  rw [List.take_succ_eq_append_getElem h1, List.take_succ_eq_append_getElem h2, List.map_append, List.map_append, ht, List.map_singleton, List.map_singleton, he]
theorem pl_iff {a b : Atr} : a.pl = b.pl ↔ a.key = b.key ∧ plainV a.val = plainV b.val := by
  unfold Atr.pl
  exact ⟨fun h => Prod.mk.inj h, fun h => by rw [h.1, h.2]⟩
theorem pl_at {A B : List Atr} {k : Nat} (h1 : k < A.length) (h2 : k < B.length) (h : A.map Atr.pl = B.map Atr.pl) : A[k].pl = B[k].pl := by
  have := congrArg (fun l => l[k]?) h
  simp only [List.getElem?_map, List.getElem?_eq_getElem h1, List.getElem?_eq_getElem h2, Option.map_some, Option.some.injEq] at this
  exact this

set_option maxRecDepth 100000 in
set_option maxHeartbeats 8000000 in
theorem sameAttrs_any (a b : Value) (A B : List Atr) (S T : Nat → Prop) (w : World) (ha : Rd w S 4 a A.length (Atrs A)) (hb : Rd w T 4 b B.length (Atrs B)) {R : Ending → World → Prop}
    (hR : ∀ w', Grow w w' → R (.returned (.bool (decide (A.map Atr.pl = B.map Atr.pl)))) w') :
    Calls Tryd.prog 56 #[a, b] w R := by
  have ha := ha.lt (by decide)
  have hb := hb.lt (by decide)
  obtain ⟨_, X, c, rfl, h1, h2, h3, h4⟩ := ha
  obtain ⟨_, Y, d, rfl, k1, k2, k3, k4⟩ := hb
  unfold maxLen at h2 k2
  have HR := Lib.hid hR
  clear hR
  by_cases hl : A.length = B.length
  · have heq : ((A.length : Int) != B.length) = false := by simp; omega
    have hl := Lib.hid hl
    go_enter Tryd.func56, Tryd.ntmps56
    go_wp2
    go_loopw [5] (fun i wr => ∃ k : Nat, k ≤ A.length ∧ i = .int .i64 k ∧ Hid ((A.take k).map Atr.pl = (B.take k).map Atr.pl) ∧ Hid (Grow w wr)) (fun i _ => A.length - (intOf i).toNat)
    case atStart => exact ⟨0, Nat.zero_le _, rfl, rfl, Grow.refl _⟩
    case round =>
      obtain ⟨k, hk, rfl, ht, hg⟩ := hrel
      by_cases hlt : k < A.length
      · have hlt2 : k < B.length := by rw [← hl.out]; exact hlt
        obtain ⟨b1, o1, rfl, hb1, hc1⟩ := h4 (by omega)
        obtain ⟨b2, o2, rfl, hb2, hc2⟩ := k4 (by omega)
        have e1 := fun W (h : Grow w W) => flat_cells Atr.cells_len h hb1 hc1 hlt
        have e2 := fun W (h : Grow w W) => flat_cells Atr.cells_len h hb2 hc2 hlt2
        have YS : Hid (A[k].key = B[k].key ∧ plainV A[k].val = plainV B[k].val → (A.take (k + 1)).map Atr.pl = (B.take (k + 1)).map Atr.pl) := fun h => take_pl hlt hlt2 ht.out (pl_iff.2 h)
        have NO : Hid (¬ (A[k].key = B[k].key ∧ plainV A[k].val = plainV B[k].val) → decide (A.map Atr.pl = B.map Atr.pl) = false) := fun h => decide_eq_false fun h2 => h (pl_iff.1 (pl_at hlt hlt2 h2))
        clear hc1 hc2 h4 k4 h3 k3
        generalize A[k] = x at *
        generalize B[k] = y at *
        obtain ⟨xk, xv, xt, xb⟩ := x
        obtain ⟨yk, yv, yt, yb⟩ := y
        have E1 : Hid (∀ W, Grow w W → (W.cell? ⟨b1, o1 + k * 4, none⟩ = some (.string xk) ∧ W.cell? ⟨b1, o1 + k * 4 + 1, none⟩ = some (.int .i64 xv) ∧ W.cell? ⟨b1, o1 + k * 4 + 2, none⟩ = some (.string xt) ∧ W.cell? ⟨b1, o1 + k * 4 + 3, none⟩ = some (.int .u64 xb)) ∧ W.cell? ⟨b2, o2 + k * 4, none⟩ = some (.string yk) ∧ W.cell? ⟨b2, o2 + k * 4 + 1, none⟩ = some (.int .i64 yv) ∧ W.cell? ⟨b2, o2 + k * 4 + 2, none⟩ = some (.string yt) ∧ W.cell? ⟨b2, o2 + k * 4 + 3, none⟩ = some (.int .u64 yb)) := fun W h => ⟨⟨e1 W h 0 _ rfl, e1 W h 1 _ rfl, e1 W h 2 _ rfl, e1 W h 3 _ rfl⟩, e2 W h 0 _ rfl, e2 W h 1 _ rfl, e2 W h 2 _ rfl, e2 W h 3 _ rfl⟩
        have SV := Lib.hid fun W (R : Ending → World → Prop) hR => rsame_any ⟨xv, xt, xb⟩ ⟨yv, yt, yb⟩ W (R := R) hR
        unfold Val.v at SV
        dsimp only at SV YS NO
        clear e1 e2
        by_cases hkey : xk.toList = yk.toList
        · have e0 : xk = yk := ba_inj hkey
          subst e0
          clear hkey
          go_wp2_with fail
          refine wp_region_lexT (Grow wr.drew) ((Grow.refl _)) 22 [0, 1, 2, 3, 4, 5, 6, 7, 8, 9, 10, 11, 12, 13, 14, 15, 16, 17, 18, 19, 20, 21] (by kernel_rfl) (by kernel_rfl) (by intro c a d v w h; cases d <;> exact h) ?_
          have GD := Lib.hid (hg.out.tr (Grow.refl wr).dr)
          generalize wr.drew = wd at *
          iterate 22 (apply lext_take; exact rfl; exact rfl; (intro W hW; obtain ⟨⟨q0, q1, q2, q3⟩, q4, q5, q6, q7⟩ := E1.out W (GD.out.tr hW); (try clear hW); go_simp; with_reducible rfl); try simp only [Act.put, List.setIfInBounds_toArray, List.set_cons_zero, List.set_cons_succ])
          refine lext_nil ?_
          simp only [List.drop_succ_cons, List.drop_zero]
          go_wp2_with fail
          try go_at_call 51
          refine SV.out _ _ ?_
          intro w1 hg1
          have GD := Lib.hid (GD.out.tr hg1)
          clear hg1 SV E1
          by_cases hv : plainV ⟨xv, xt, xb⟩ = plainV ⟨yv, yt, yb⟩
          · have YS := Lib.hid (YS.out ⟨by first | rfl | trivial, hv⟩)
            rw [decide_eq_true hv]
            clear hv NO
            go_wp2
            go_roundw
            case rel => exact ⟨k + 1, by omega, by go_num, YS.out, GD.out⟩
            case measure => simp [intOf]; omega
          · have NO := Lib.hid (NO.out (fun h => hv h.2))
            rw [decide_eq_false hv]
            clear hv YS
            go_wp2
            have h := HR.out _ GD.out
            rw [NO.out] at h
            exact h
        · have NO := Lib.hid (NO.out (fun h => hkey (by rw [h.1])))
          have hk2 : (xk.toList == yk.toList) = false := by rw [beq_eq_false_iff_ne]; exact hkey
          clear YS SV
          go_wp2_with fail
          refine wp_region_lexT (Grow wr.drew) ((Grow.refl _)) 22 [0, 1, 2, 3, 4, 5, 6, 7, 8, 9, 10, 11, 12, 13, 14, 15, 16, 17, 18, 19, 20, 21] (by kernel_rfl) (by kernel_rfl) (by intro c a d v w h; cases d <;> exact h) ?_
          have GD := Lib.hid (hg.out.tr (Grow.refl wr).dr)
          generalize wr.drew = wd at *
          iterate 12 (apply lext_take; exact rfl; exact rfl; (intro W hW; obtain ⟨⟨q0, q1, q2, q3⟩, q4, q5, q6, q7⟩ := E1.out W (GD.out.tr hW); (try clear hW); go_simp; with_reducible rfl); try simp only [Act.put, List.setIfInBounds_toArray, List.set_cons_zero, List.set_cons_succ])
          iterate 10 (apply lext_skip; exact rfl; exact rfl; try simp only [Act.put, List.setIfInBounds_toArray, List.set_cons_zero, List.set_cons_succ])
          refine lext_nil ?_
          simp only [List.drop_succ_cons, List.drop_zero]
          go_wp2
          have h := HR.out _ GD.out
          rw [NO.out] at h
          exact h
      · obtain rfl : k = A.length := by omega
        have e : A.map Atr.pl = B.map Atr.pl := by
          have := ht.out
          rw [List.take_length] at this
          rw [this, List.take_of_length_le (by rw [hl.out]; exact Nat.le_refl _)]
        have h := HR.out
        rw [decide_eq_true e] at h
        have HR := Lib.hid h
        clear h e
        go_wp2
        exact HR.out _ hg.out
  · have heq : ((A.length : Int) != B.length) = true := by simp; omega
    have e : ¬ A.map Atr.pl = B.map Atr.pl := fun h => hl (by have := congrArg List.length h; rwa [List.length_map, List.length_map] at this)
    have h := HR.out
    rw [decide_eq_false e] at h
    have HR := Lib.hid h
    clear h e
    go_enter Tryd.func56, Tryd.ntmps56
    go_wp2
    exact HR.out _ (Grow.refl _)
end Go.Proofs.YtjalimkajcjapaaDoor
