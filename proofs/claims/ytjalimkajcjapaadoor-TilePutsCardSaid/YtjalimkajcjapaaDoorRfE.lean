/-
  The reference's SameFeatures.
-/
import Derived.Test.YtjalimkajcjapaaDoorChecked
import Derived.Test.YtjalimkajcjapaaDoorAtrA
import Derived.Test.YtjalimkajcjapaaDoorRowsA
import Derived.Test.YtjalimkajcjapaaDoorOvCI
import Derived.Deep.Cut
namespace Go.Proofs.YtjalimkajcjapaaDoor
open Go.RowKit B

/-- a feature as it lies: its cells, its paths, its attributes -/
structure FtR where
  f : Ft
  A : List PRow
  B : List Atr
def FtR.rd (x : FtR) (w : World) (S : Nat → Prop) : Prop := Rd w S 1 x.f.pv x.A.length (x.A.map PRow.v) ∧ (∀ r ∈ x.A, r.rd w S) ∧ Rd w S 4 x.f.av x.B.length (Atrs x.B)
theorem FtR.rd.gr {x : FtR} {w w' : World} {S : Nat → Prop} (h : x.rd w S) (hg : Grow w w') : x.rd w' S := ⟨h.1.gr2 (by decide) hg, fun r hr => (h.2.1 r hr).gr2 (by decide) hg, h.2.2.gr2 (by decide) hg⟩
def FtR.cells (x : FtR) : List Value := x.f.cells
theorem FtR.cells_len (x : FtR) : x.cells.length = 5 := rfl
/-- what counts of a feature -/
def FtR.pl (x : FtR) : Bool × Nat × Int × List (List Pt) × List (ByteArray × Val) := (x.f.h, x.f.id, x.f.ty, x.A.map PRow.l, x.B.map Atr.pl)
def Fts (l : List FtR) : List Value := l.flatMap FtR.cells
theorem FtR.pl_iff {x y : FtR} : x.pl = y.pl ↔ x.f.h = y.f.h ∧ x.f.id = y.f.id ∧ x.f.ty = y.f.ty ∧ x.A.map PRow.l = y.A.map PRow.l ∧ x.B.map Atr.pl = y.B.map Atr.pl := by
  unfold FtR.pl
  simp only [Prod.mk.injEq]
theorem take_plF {A B : List FtR} {k : Nat} (h1 : k < A.length) (h2 : k < B.length) (ht : (A.take k).map FtR.pl = (B.take k).map FtR.pl) (he : A[k].pl = B[k].pl) : (A.take (k + 1)).map FtR.pl = (B.take (k + 1)).map FtR.pl := by
  rw [List.take_succ_eq_append_getElem h1, List.take_succ_eq_append_getElem h2, List.map_append, List.map_append, ht, List.map_singleton, List.map_singleton, he]
theorem plF_at {A B : List FtR} {k : Nat} (h1 : k < A.length) (h2 : k < B.length) (h : A.map FtR.pl = B.map FtR.pl) : A[k].pl = B[k].pl := by
  have := congrArg (fun l => l[k]?) h
  simp only [List.getElem?_map, List.getElem?_eq_getElem h1, List.getElem?_eq_getElem h2, Option.map_some, Option.some.injEq] at this
  exact this

set_option maxRecDepth 100000 in
set_option maxHeartbeats 16000000 in
theorem sameFeatures_any (a b : Value) (A B : List FtR) (S T S' T' : Nat → Prop) (w : World) (ha : Rd w S 5 a A.length (Fts A)) (hA : ∀ x ∈ A, x.rd w S') (hb : Rd w T 5 b B.length (Fts B)) (hB : ∀ x ∈ B, x.rd w T') {R : Ending → World → Prop}
    (hR : ∀ (c : Bool) w', (c = true ↔ A.map FtR.pl = B.map FtR.pl) → Grow w w' → R (.returned (.bool c)) w') :
    Calls Tryd.prog 32 #[a, b] w R := by
  have ha := ha.lt (by decide)
  have hb := hb.lt (by decide)
  have HA := Lib.hid hA
  have HB := Lib.hid hB
  obtain ⟨_, X, c, rfl, h1, h2, h3, h4⟩ := ha
  obtain ⟨_, Y, d, rfl, k1, k2, k3, k4⟩ := hb
  unfold maxLen at h2 k2
  have HR := Lib.hid hR
  clear hR hA hB
  by_cases hl : A.length = B.length
  · have heq : ((A.length : Int) != B.length) = false := by simp; omega
    have hl := Lib.hid hl
    go_enter Tryd.func32, Tryd.ntmps32
    go_wp2
    go_loopw [5] (fun i wr => ∃ k : Nat, k ≤ A.length ∧ i = .int .i64 k ∧ Hid ((A.take k).map FtR.pl = (B.take k).map FtR.pl) ∧ Hid (Grow w wr)) (fun i _ => A.length - (intOf i).toNat)
    case atStart => exact ⟨0, Nat.zero_le _, rfl, rfl, Grow.refl _⟩
    case round =>
      obtain ⟨k, hk, rfl, ht, hg⟩ := hrel
      by_cases hlt : k < A.length
      · have hlt2 : k < B.length := by rw [← hl.out]; exact hlt
        obtain ⟨b1, o1, rfl, hb1, hc1⟩ := h4 (by omega)
        obtain ⟨b2, o2, rfl, hb2, hc2⟩ := k4 (by omega)
        have e1 := fun W (h : Grow w W) => flat_cells FtR.cells_len h hb1 hc1 hlt
        have e2 := fun W (h : Grow w W) => flat_cells FtR.cells_len h hb2 hc2 hlt2
        have YS : Hid (A[k].pl = B[k].pl → (A.take (k + 1)).map FtR.pl = (B.take (k + 1)).map FtR.pl) := fun h => take_plF hlt hlt2 ht.out h
        have NO : Hid (¬ A[k].pl = B[k].pl → ¬ A.map FtR.pl = B.map FtR.pl) := fun h h2 => h (plF_at hlt hlt2 h2)
        have RA := HA.out A[k] (List.getElem_mem hlt)
        have RB := HB.out B[k] (List.getElem_mem hlt2)
        clear hc1 hc2 h4 k4 h3 k3
        generalize A[k] = x at *
        generalize B[k] = y at *
        have PL := Lib.hid (FtR.pl_iff (x := x) (y := y))
        obtain ⟨⟨xh, xi, xt, xp, xv⟩, xA, xB⟩ := x
        obtain ⟨⟨yh, yi, yt, yp, yv⟩, yA, yB⟩ := y
        have E1 : Hid (∀ W, Grow w W → (W.cell? ⟨b1, o1 + k * 5, none⟩ = some (.bool xh) ∧ W.cell? ⟨b1, o1 + k * 5 + 1, none⟩ = some (.int .u64 xi) ∧ W.cell? ⟨b1, o1 + k * 5 + 2, none⟩ = some (.int .i64 xt) ∧ W.cell? ⟨b1, o1 + k * 5 + 3, none⟩ = some xp ∧ W.cell? ⟨b1, o1 + k * 5 + 4, none⟩ = some xv) ∧ W.cell? ⟨b2, o2 + k * 5, none⟩ = some (.bool yh) ∧ W.cell? ⟨b2, o2 + k * 5 + 1, none⟩ = some (.int .u64 yi) ∧ W.cell? ⟨b2, o2 + k * 5 + 2, none⟩ = some (.int .i64 yt) ∧ W.cell? ⟨b2, o2 + k * 5 + 3, none⟩ = some yp ∧ W.cell? ⟨b2, o2 + k * 5 + 4, none⟩ = some yv) := fun W h => ⟨⟨e1 W h 0 _ rfl, e1 W h 1 _ rfl, e1 W h 2 _ rfl, e1 W h 3 _ rfl, e1 W h 4 _ rfl⟩, e2 W h 0 _ rfl, e2 W h 1 _ rfl, e2 W h 2 _ rfl, e2 W h 3 _ rfl, e2 W h 4 _ rfl⟩
        obtain ⟨ra1, ra2, ra3⟩ := RA
        obtain ⟨rb1, rb2, rb3⟩ := RB
        dsimp only at ra1 ra2 ra3 rb1 rb2 rb3
        have SP := Lib.hid fun W (hg : Grow w W) (R : Ending → World → Prop) hR => rsame9_any xp yp xA yA _ _ _ _ W (ra1.gr2 (by decide) hg) (fun r hr => (ra2 r hr).gr2 (by decide) hg) (rb1.gr2 (by decide) hg) (fun r hr => (rb2 r hr).gr2 (by decide) hg) (R := R) hR
        have SA := Lib.hid fun W (hg : Grow w W) (R : Ending → World → Prop) hR => sameAttrs_any xv yv xB yB _ _ W (ra3.gr2 (by decide) hg) (rb3.gr2 (by decide) hg) (R := R) hR
        clear e1 e2 ra1 ra2 ra3 rb1 rb2 rb3
        dsimp only at PL
        have NO : Hid (¬ (xh = yh ∧ xi = yi ∧ xt = yt ∧ xA.map PRow.l = yA.map PRow.l ∧ xB.map Atr.pl = yB.map Atr.pl) → ∀ w', Grow w w' → R (.returned (.bool false)) w') := fun h w' hg => HR.out false w' ⟨fun h2 => (by cases h2), fun h2 => absurd h2 (NO.out fun h3 => h (PL.out.1 h3))⟩ hg
        have YS : Hid (xh = yh ∧ xi = yi ∧ xt = yt ∧ xA.map PRow.l = yA.map PRow.l ∧ xB.map Atr.pl = yB.map Atr.pl → (A.take (k + 1)).map FtR.pl = (B.take (k + 1)).map FtR.pl) := fun h => YS.out (PL.out.2 h)
        clear PL
        go_upto_region 6 with fail
        refine wp_region_lexT (Grow wr.drew) ((Grow.refl _)) 62 [0, 1, 2, 3, 4, 5, 6, 7, 8, 9, 10, 11, 12, 13, 14, 15, 16, 17, 18, 19, 20, 21, 22, 23, 24, 25, 26, 27, 28, 29, 30, 31, 32, 33, 34, 35, 36, 37, 38, 39, 40, 41, 42, 43, 44, 45, 46, 47, 48, 49, 50, 51, 52, 53, 54, 55, 56, 57, 58, 59, 60, 61] (by kernel_rfl) (by kernel_rfl) (by intro c a d v w h; cases d <;> exact h) ?_
        have GD := Lib.hid (hg.out.tr (Grow.refl wr).dr)
        have GX : Hid (Grow wr.drew wr.drew) := Grow.refl _
        generalize wr.drew = wd at *
        cases th : (xh == yh) with
        | false =>
          have tn : ¬ xh = yh := by rintro rfl; simp at th
          iterate 12 (apply lext_take; exact rfl; exact rfl; (intro W hW; obtain ⟨⟨q0, q1, q2, q3, q4⟩, q5, q6, q7, q8, q9⟩ := E1.out W (GD.out.tr hW); (try clear hW); go_simp; with_reducible rfl); try simp only [Act.put, List.setIfInBounds_toArray, List.set_cons_zero, List.set_cons_succ])
          iterate 11 (apply lext_skip; exact rfl; exact rfl; try simp only [Act.put, List.setIfInBounds_toArray, List.set_cons_zero, List.set_cons_succ])
          iterate 2 (apply lext_take; exact rfl; exact rfl; (intro W hW; obtain ⟨⟨q0, q1, q2, q3, q4⟩, q5, q6, q7, q8, q9⟩ := E1.out W (GD.out.tr hW); (try clear hW); go_simp; with_reducible rfl); try simp only [Act.put, List.setIfInBounds_toArray, List.set_cons_zero, List.set_cons_succ])
          iterate 11 (apply lext_skip; exact rfl; exact rfl; try simp only [Act.put, List.setIfInBounds_toArray, List.set_cons_zero, List.set_cons_succ])
          iterate 2 (apply lext_take; exact rfl; exact rfl; (intro W hW; obtain ⟨⟨q0, q1, q2, q3, q4⟩, q5, q6, q7, q8, q9⟩ := E1.out W (GD.out.tr hW); (try clear hW); go_simp; with_reducible rfl); try simp only [Act.put, List.setIfInBounds_toArray, List.set_cons_zero, List.set_cons_succ])
          iterate 12 (apply lext_skip; exact rfl; exact rfl; try simp only [Act.put, List.setIfInBounds_toArray, List.set_cons_zero, List.set_cons_succ])
          iterate 2 (apply lext_take; exact rfl; exact rfl; (intro W hW; obtain ⟨⟨q0, q1, q2, q3, q4⟩, q5, q6, q7, q8, q9⟩ := E1.out W (GD.out.tr hW); (try clear hW); go_simp; with_reducible rfl); try simp only [Act.put, List.setIfInBounds_toArray, List.set_cons_zero, List.set_cons_succ])
          iterate 10 (apply lext_skip; exact rfl; exact rfl; try simp only [Act.put, List.setIfInBounds_toArray, List.set_cons_zero, List.set_cons_succ])
          refine lext_nil ?_
          simp only [List.drop_succ_cons, List.drop_zero]
          clear E1 SP SA YS
          go_wp2
          exact NO.out (fun h => (tn h.1)) _ GD.out
        | true =>
          have eh : xh = yh := by simpa using th
          subst eh
          cases ti : ((xi : Int) != (yi : Int)) with
          | true =>
            have tn : ¬ xi = yi := by rintro rfl; simp at ti
            iterate 25 (apply lext_take; exact rfl; exact rfl; (intro W hW; obtain ⟨⟨q0, q1, q2, q3, q4⟩, q5, q6, q7, q8, q9⟩ := E1.out W (GD.out.tr hW); (try clear hW); go_simp; with_reducible rfl); try simp only [Act.put, List.setIfInBounds_toArray, List.set_cons_zero, List.set_cons_succ])
            iterate 11 (apply lext_skip; exact rfl; exact rfl; try simp only [Act.put, List.setIfInBounds_toArray, List.set_cons_zero, List.set_cons_succ])
            iterate 2 (apply lext_take; exact rfl; exact rfl; (intro W hW; obtain ⟨⟨q0, q1, q2, q3, q4⟩, q5, q6, q7, q8, q9⟩ := E1.out W (GD.out.tr hW); (try clear hW); go_simp; with_reducible rfl); try simp only [Act.put, List.setIfInBounds_toArray, List.set_cons_zero, List.set_cons_succ])
            iterate 12 (apply lext_skip; exact rfl; exact rfl; try simp only [Act.put, List.setIfInBounds_toArray, List.set_cons_zero, List.set_cons_succ])
            iterate 2 (apply lext_take; exact rfl; exact rfl; (intro W hW; obtain ⟨⟨q0, q1, q2, q3, q4⟩, q5, q6, q7, q8, q9⟩ := E1.out W (GD.out.tr hW); (try clear hW); go_simp; with_reducible rfl); try simp only [Act.put, List.setIfInBounds_toArray, List.set_cons_zero, List.set_cons_succ])
            iterate 10 (apply lext_skip; exact rfl; exact rfl; try simp only [Act.put, List.setIfInBounds_toArray, List.set_cons_zero, List.set_cons_succ])
            refine lext_nil ?_
            simp only [List.drop_succ_cons, List.drop_zero]
            clear E1 SP SA YS
            go_wp2
            exact NO.out (fun h => (tn h.2.1)) _ GD.out
          | false =>
            have ei0 : (xi : Int) = yi := by simpa using ti
            have ei : xi = yi := by omega
            clear ei0
            subst ei
            cases tt : (xt != yt) with
            | true =>
              have tn : ¬ xt = yt := by rintro rfl; simp at tt
              iterate 38 (apply lext_take; exact rfl; exact rfl; (intro W hW; obtain ⟨⟨q0, q1, q2, q3, q4⟩, q5, q6, q7, q8, q9⟩ := E1.out W (GD.out.tr hW); (try clear hW); go_simp; with_reducible rfl); try simp only [Act.put, List.setIfInBounds_toArray, List.set_cons_zero, List.set_cons_succ])
              iterate 12 (apply lext_skip; exact rfl; exact rfl; try simp only [Act.put, List.setIfInBounds_toArray, List.set_cons_zero, List.set_cons_succ])
              iterate 2 (apply lext_take; exact rfl; exact rfl; (intro W hW; obtain ⟨⟨q0, q1, q2, q3, q4⟩, q5, q6, q7, q8, q9⟩ := E1.out W (GD.out.tr hW); (try clear hW); go_simp; with_reducible rfl); try simp only [Act.put, List.setIfInBounds_toArray, List.set_cons_zero, List.set_cons_succ])
              iterate 10 (apply lext_skip; exact rfl; exact rfl; try simp only [Act.put, List.setIfInBounds_toArray, List.set_cons_zero, List.set_cons_succ])
              refine lext_nil ?_
              simp only [List.drop_succ_cons, List.drop_zero]
              clear E1 SP SA YS
              go_wp2
              exact NO.out (fun h => (tn h.2.2.1)) _ GD.out
            | false =>
              have et : xt = yt := by simpa using tt
              subst et
              iterate 48 (apply lext_take; exact rfl; exact rfl; (intro W hW; obtain ⟨⟨q0, q1, q2, q3, q4⟩, q5, q6, q7, q8, q9⟩ := E1.out W (GD.out.tr hW); (try clear hW); go_simp; with_reducible rfl); try simp only [Act.put, List.setIfInBounds_toArray, List.set_cons_zero, List.set_cons_succ])
              apply lext_turn; exact rfl; exact rfl; exact rfl; intro K hK; go_simp; go_at_call 55; refine SP.out _ GD.out _ ?_
              intro w1 hg1
              have GX := Lib.hid hg1
              refine hK.out _ _ GX.out ?_
              clear hK hg1 SP
              try simp only [Act.put, List.setIfInBounds_toArray, List.set_cons_zero, List.set_cons_succ]
              by_cases hp : xA.map PRow.l = yA.map PRow.l
              · rw [decide_eq_true hp]
                iterate 3 (apply lext_take; exact rfl; exact rfl; (intro W hW; (try clear hW); go_simp; with_reducible rfl); try simp only [Act.put, List.setIfInBounds_toArray, List.set_cons_zero, List.set_cons_succ])
                iterate 10 (apply lext_take; exact rfl; exact rfl; (intro W hW; obtain ⟨⟨q0, q1, q2, q3, q4⟩, q5, q6, q7, q8, q9⟩ := E1.out W (GD.out.tr hW); (try clear hW); go_simp; with_reducible rfl); try simp only [Act.put, List.setIfInBounds_toArray, List.set_cons_zero, List.set_cons_succ])
                refine lext_nil ?_
                simp only [List.drop_succ_cons, List.drop_zero]
                go_wp2_with fail
                go_at_call 56
                refine SA.out _ (GD.out.tr GX.out) _ ?_
                intro w2 hg2
                have GD := Lib.hid (GD.out.tr (GX.out.tr hg2))
                clear hg2 SA E1 GX
                by_cases hv : xB.map Atr.pl = yB.map Atr.pl
                · rw [decide_eq_true hv]
                  have YS := Lib.hid (YS.out ⟨by first | rfl | trivial, by first | rfl | trivial, by first | rfl | trivial, hp, hv⟩)
                  clear hp hv NO th ti tt
                  go_wp2
                  go_roundw
                  case rel => exact ⟨k + 1, by omega, by go_num, YS.out, GD.out⟩
                  case measure => simp [intOf]; omega
                · rw [decide_eq_false hv]
                  go_wp2
                  exact NO.out (fun h => (hv h.2.2.2.2)) _ GD.out
              · rw [decide_eq_false hp]
                iterate 3 (apply lext_take; exact rfl; exact rfl; (intro W hW; (try clear hW); go_simp; with_reducible rfl); try simp only [Act.put, List.setIfInBounds_toArray, List.set_cons_zero, List.set_cons_succ])
                iterate 10 (apply lext_skip; exact rfl; exact rfl; try simp only [Act.put, List.setIfInBounds_toArray, List.set_cons_zero, List.set_cons_succ])
                refine lext_nil ?_
                simp only [List.drop_succ_cons, List.drop_zero]
                have GD := Lib.hid (GD.out.tr GX.out)
                clear E1 SA YS
                go_wp2
                exact NO.out (fun h => (hp h.2.2.2.1)) _ GD.out
      · obtain rfl : k = A.length := by omega
        have e : A.map FtR.pl = B.map FtR.pl := by
          have := ht.out
          rw [List.take_length] at this
          rw [this, List.take_of_length_le (by rw [hl.out]; exact Nat.le_refl _)]
        have HR := Lib.hid (fun w' (hg : Grow w w') => HR.out true w' ⟨fun _ => e, fun _ => rfl⟩ hg)
        clear e
        go_wp2
        exact HR.out _ hg.out
  · have heq : ((A.length : Int) != B.length) = true := by simp; omega
    have e : ¬ A.map FtR.pl = B.map FtR.pl := fun h => hl (by have := congrArg List.length h; rwa [List.length_map, List.length_map] at this)
    have HR := Lib.hid (fun w' (hg : Grow w w') => HR.out false w' ⟨fun h => (by cases h), fun h => absurd h e⟩ hg)
    clear e
    go_enter Tryd.func32, Tryd.ntmps32
    go_wp2
    exact HR.out _ (Grow.refl _)
end Go.Proofs.YtjalimkajcjapaaDoor
