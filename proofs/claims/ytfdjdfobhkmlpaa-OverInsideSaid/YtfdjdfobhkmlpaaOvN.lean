/-
  OverInside, walked.
-/
import Derived.Test.YtfdjdfobhkmlpaaChecked
import Derived.Test.YtfdjdfobhkmlpaaOvJ
import Derived.Test.YtfdjdfobhkmlpaaOvCI
import Derived.Test.YtfdjdfobhkmlpaaOvAB
import Derived.Test.YtfdjdfobhkmlpaaOvG
import Derived.Test.YtfdjdfobhkmlpaaPRightA
import Derived.Test.YtfdjdfobhkmlpaaRowsA
namespace Go.Proofs.Ytfdjdfobhkmlpaa
open Go.RowKit B

theorem wantL_snoc {ty : Int} {z : Zm} {e : Int} {A : List (List Pt)} {l : List Pt} : wantL ty z e (A ++ [l]) = wantL ty z e A ++ (if ty ≤ ((wantP ty z e l).length : Int) then [wantP ty z e l] else []) := by
  unfold wantL
  rw [List.map_append, List.filter_append, List.map_singleton, List.filter_cons]
  congr 1
  by_cases h : ty ≤ ((wantP ty z e l).length : Int)
  · rw [if_pos (decide_eq_true h), if_pos h]; rfl
  · rw [if_neg (by rw [decide_eq_true_eq]; exact h), if_neg h]; rfl
theorem simple_len (l : List Pt) : (simple l false).length ≤ l.length := by
  unfold simple
  rw [if_neg (by decide)]
  unfold Go.Lib.compact
  exact cu_len _ _
set_option maxRecDepth 100000 in
set_option maxHeartbeats 4000000 in
theorem featIn_any (f : Ft) (z : Zm) (e : Int) (A : List PRow) (n : Nat) (xs : List Value) (S S' Sa : Nat → Prop) (w : World) (hp : Rd w S 1 f.pv A.length (A.map PRow.v)) (hA : ∀ r ∈ A, r.rd w S') (ha : Rd w Sa 4 f.av n xs) (h1 : ∀ u ∈ xs, u.oneCell' = true) (hn : n * 48 ≤ 140737488355328) (hl : A.length ≤ 40 ∧ ∀ r ∈ A, r.l.length ≤ 300)
    (hz : zright z e = true) (hpr : pright f.ty A = 0) (h3 : f.ty ≠ 3) (hin : AllIn z e (A.map PRow.l)) {R : Ending → World → Prop}
    (hbad : wantL f.ty z e (A.map PRow.l) = [] → ∀ w', Grow w w' → R (.returned (.tuple #[.agg zeroFt.cells.toArray, .bool false])) w')
    (hok : wantL f.ty z e (A.map PRow.l) ≠ [] → ∀ (pv av : Value) (rows : List PRow) (w' : World), Grow w w' → Rd w' (fun _ => True) 1 pv rows.length (rows.map PRow.v) → (∀ r ∈ rows, r.rd w' (fun _ => True)) → rows.map PRow.l = wantL f.ty z e (A.map PRow.l) → Rd w' (fun _ => True) 4 av n xs → R (.returned (.tuple #[.agg (⟨f.h, f.id, f.ty, pv, av⟩ : Ft).cells.toArray, .bool true])) w') :
    Calls Try.prog 8 #[.agg f.cells.toArray, .agg z.cells.toArray, .int .i64 e] w R := by
  obtain ⟨h, id, ty, pv, av⟩ := f
  dsimp only at *
  obtain ⟨b1, b2, -⟩ := pright_len hpr
  by_cases hty : ty = 1
  · subst hty
    have e1 := inside_law1 hpr hin
    rw [← e1] at hbad hok
    exact feature1_any _ z e A n xs S S' Sa w hp hA ha h1 hn ⟨by omega, fun r hr => by have := hl.2 r hr; omega⟩ (fun _ _ => rfl) (fun hh => hbad (hh hz hpr)) (fun _ _ hne pv av rows w' hg hr hrr hm hav => hok hne pv av rows w' hg hr hrr hm hav)
  · obtain rfl : ty = 2 := by omega
    have e1 := inside_law2 hz hpr hin
    rw [← e1] at hbad hok
    exact feature2_any _ z e A n xs S S' Sa w hp hA ha h1 hn ⟨by omega, fun r hr => by have := hl.2 r hr; omega⟩ (fun _ _ => rfl) (fun hh => hbad (hh hz hpr)) (fun _ _ hne pv av rows w' hg hr hrr hm hav => hok hne pv av rows w' hg hr hrr hm hav)

set_option maxRecDepth 100000 in
set_option maxHeartbeats 16000000 in
theorem overInside_walk (f : Ft) (z : Zm) (e : Int) (A : List PRow) (n : Nat) (xs : List Value) (S S' Sa : Nat → Prop) (w : World) (hp : Rd w S 1 f.pv A.length (A.map PRow.v)) (hA : ∀ r ∈ A, r.rd w S') (hBig : ∀ r ∈ A, r.l.length ≤ 140737488355328) (ha : Rd w Sa 4 f.av n xs) (h1 : ∀ u ∈ xs, u.oneCell' = true) (hn : n * 48 ≤ 140737488355328)
    {R : Ending → World → Prop} (hR : ∀ w', Grow w w' → R (.returned (.bool true)) w') :
    Calls Try.prog 5 #[.agg f.cells.toArray, .agg z.cells.toArray, .int .i64 e] w R := by
  have HR := Lib.hid hR
  clear hR
  have hp := hp.lt (by decide)
  have HP := Lib.hid hp
  have HA := Lib.hid hA
  have HBG := Lib.hid hBig
  have HAT := Lib.hid ha
  have H1 := Lib.hid h1
  have HN := Lib.hid hn
  obtain ⟨_, aA, ac, hav, -, -, -, -⟩ := ha
  clear hA h1 hn hBig
  obtain ⟨h, id, ty, pv, av⟩ := f
  dsimp only at *
  subst hav
  obtain ⟨_, pA, pc, rfl, p1, p2, p3, p4⟩ := hp
  unfold maxLen at p2
  have MU := Lib.hid fun W (hg : Grow w W) (R : Ending → World → Prop) hR => much28_any _ A _ _ W (HP.out.gr (by decide) hg) (fun r hr => (HA.out r hr).gr2 (by decide) hg) HBG.out (R := R) hR
  have RR := Lib.hid fun W (R : Ending → World → Prop) hR => rright28_any z e W (R := R) hR
  have PR := Lib.hid fun W (hg : Grow w W) (R : Ending → World → Prop) hR => rright9_any ty _ A _ _ W (HP.out.gr (by decide) hg) (fun r hr => (HA.out r hr).gr2 (by decide) hg) (R := R) hR
  have FC := Lib.hid fun W (hg : Grow w W) hl hz hpr h3 hin (R : Ending → World → Prop) hb ho => featIn_any (⟨h, id, ty, .slice pA A.length pc, .slice aA n ac⟩ : Ft) z e A n xs _ _ _ W (HP.out.gr (by decide) hg) (fun r hr => (HA.out r hr).gr2 (by decide) hg) (HAT.out.gr2 (by decide) hg) H1.out HN.out hl hz hpr h3 hin (R := R) hb ho
  dsimp only at FC
  obtain ⟨wa, hwa⟩ : ∃ wa, wa = (w.alloc (.cells (⟨h, id, ty, .slice pA A.length pc, .slice aA n ac⟩ : Ft).cells.toArray 26)).alloc (.cells z.cells.toArray 28) := ⟨_, rfl⟩
  have GA : Hid (Grow w wa) := by subst hwa; exact ((Grow.refl _).al _).al _
  have BF : Hid (wa.heap[w.heap.size]? = some (.cells (⟨h, id, ty, .slice pA A.length pc, .slice aA n ac⟩ : Ft).cells.toArray 26 (0, 0))) := by
    rw [hwa]
    exact grow_blk ((Grow.refl _).al _) (heap_alloc_new w _)
  have BZ : Hid (wa.heap[w.heap.size + 1]? = some (.cells z.cells.toArray 28 (0, 0))) := by
    have := heap_alloc_new (w.alloc (.cells (⟨h, id, ty, .slice pA A.length pc, .slice aA n ac⟩ : Ft).cells.toArray 26)) (.cells z.cells.toArray 28)
    rw [World.size_alloc] at this
    rw [hwa]
    exact this
  go_enter Try.func5, Try.ntmps5
  go_upto_region 1 with fail
  rw [← hwa]
  clear hwa
  have f2 := cell_of_row _ w.heap.size 2 _ _ (0, 0) BF.out
  have f3 := cell_of_row _ w.heap.size 3 _ _ (0, 0) BF.out
  unfold Ft.cells at f2 f3
  simp only [List.getElem?_toArray, List.getElem?_cons_zero, List.getElem?_cons_succ] at f2 f3
  go_wp2_with fail
  try go_at_call 6
  refine MU.out _ GA.out _ ?_
  intro b w1 hb hg1
  have BF := Lib.hid (grow_blk hg1 BF.out)
  have BZ := Lib.hid (grow_blk hg1 BZ.out)
  have GA := Lib.hid (GA.out.tr hg1)
  clear hg1 MU f2 f3
  cases b with
  | true =>
    clear hb p4
    go_wp2_with fail
    try go_at_call 7
    refine live28_any _ ?_
    intro w9 hg9
    have G9 := Lib.hid (GA.out.tr hg9)
    clear hg9
    go_wp2
    exact HR.out _ G9.out
  | false =>
    have HL := Lib.hid (hb rfl)
    clear hb
    have q0 := PtZ.at_ BZ.out 0
    have q1 := PtZ.at_ BZ.out 1
    have q2 := PtZ.at_ BZ.out 2
    have q3 := PtZ.at_ BZ.out 3
    simp only [Zm.cells, List.getElem?_cons_zero, List.getElem?_cons_succ] at q0 q1 q2 q3
    go_wp2_with fail
    try go_at_call 12
    clear q0 q1 q2 q3
    refine RR.out _ _ ?_
    intro w2 hg2
    have BF := Lib.hid (grow_blk hg2 BF.out)
    have BZ := Lib.hid (grow_blk hg2 BZ.out)
    have GA := Lib.hid (GA.out.tr hg2)
    clear hg2 RR
    cases hz : zright z e with
    | false =>
      clear hz p4
      go_wp2_with fail
      try go_at_call 7
      refine live28_any _ ?_
      intro w9 hg9
      have G9 := Lib.hid (GA.out.tr hg9)
      clear hg9
      go_wp2
      exact HR.out _ G9.out
    | true =>
      have HZ := Lib.hid hz
      clear hz
      have f2 := cell_of_row _ w.heap.size 2 _ _ (0, 0) BF.out
      have f3 := cell_of_row _ w.heap.size 3 _ _ (0, 0) BF.out
      unfold Ft.cells at f2 f3
      simp only [List.getElem?_toArray, List.getElem?_cons_zero, List.getElem?_cons_succ] at f2 f3
      go_wp2_with fail
      try go_at_call 10
      refine PR.out _ GA.out _ ?_
      intro w3 hg3
      have BF := Lib.hid (grow_blk hg3 BF.out)
      have BZ := Lib.hid (grow_blk hg3 BZ.out)
      have GA := Lib.hid (GA.out.tr hg3)
      clear hg3 PR f2 f3
      by_cases hpr : pright ty A = 0
      · have HPR := Lib.hid hpr
        rw [hpr]
        clear hpr
        by_cases h3 : ty = 3
        · have t3 : (ty == 3) = true := by rw [beq_iff_eq]; exact h3
          clear h3 p4
          have f2 := cell_of_row _ w.heap.size 2 _ _ (0, 0) BF.out
          have f3 := cell_of_row _ w.heap.size 3 _ _ (0, 0) BF.out
          unfold Ft.cells at f2 f3
          simp only [List.getElem?_toArray, List.getElem?_cons_zero, List.getElem?_cons_succ] at f2 f3
          go_wp2_with fail
          try go_at_call 7
          refine live28_any _ ?_
          intro w9 hg9
          have G9 := Lib.hid (GA.out.tr hg9)
          clear hg9
          go_wp2
          exact HR.out _ G9.out
        · have t3 : (ty == 3) = false := by rw [beq_eq_false_iff_ne]; exact h3
          have H3 := Lib.hid h3
          clear h3
          obtain ⟨r1, r2, r3, r4, r5, r6, r7, r8, r9, r10⟩ := zright_iff HZ.out
          obtain ⟨al0, al1, ain⟩ := pright_in HPR.out
          obtain ⟨ty1, ty3, -⟩ := pright_len HPR.out
          have AIN := Lib.hid ain
          have w1' : IntKind.i64.wrap (-z.b) = -z.b := IntWalk.i64_in _ (by omega)
          have w2' : IntKind.i64.wrap (e + z.b) = e + z.b := IntWalk.i64_in _ (by omega)
          have LOHI := Lib.hid (And.intro w1' w2')
          clear w1' w2' r1 r2 r3 r4 r5 r6 r7 r8 r9 r10 al0 al1 ain
          have f2 := cell_of_row _ w.heap.size 2 _ _ (0, 0) BF.out
          have f3 := cell_of_row _ w.heap.size 3 _ _ (0, 0) BF.out
          unfold Ft.cells at f2 f3
          simp only [List.getElem?_toArray, List.getElem?_cons_zero, List.getElem?_cons_succ] at f2 f3
          go_wp2_with fail
          clear f2 f3 t3
          go_loopw [8, 7] (fun i pv wr => ∃ (k : Nat) (rows : List PRow), k ≤ A.length ∧ i = .int .i64 k ∧ Hid (AllIn z e ((A.take k).map PRow.l)) ∧ Hid (rows.map PRow.l = wantL ty z e ((A.take k).map PRow.l)) ∧ Hid (rows.length ≤ k) ∧ Hid (PSt w3 pv (.slice none 0 0) rows [] wr)) (fun i _ _ => A.length - (intOf i).toNat)
          case atStart => exact ⟨0, [], Nat.zero_le _, rfl, fun l hl => by simp at hl, rfl, Nat.zero_le _, PSt.nil _⟩
          case round =>
            obtain ⟨k, rows, hk, rfl, hin, hrl, hrn, hst⟩ := hrel
            obtain ⟨ap, cp, rfl⟩ := own_slice hst.out.op
            by_cases hlt : k < A.length
            · obtain ⟨b, o, rfl, -, -⟩ := p4 (by omega)
              have C1 : Hid (∀ W, Grow w W → W.cell? ⟨b, o + k, none⟩ = some (A[k]'hlt).v) := fun W hW => by
                have := rd_cell hW HP.out rfl (i := k) (by simpa using hlt)
                rw [List.getElem_map] at this
                exact this
              have r1 := HA.out (A[k]'hlt) (List.getElem_mem hlt)
              have TW : Hid (wantL ty z e ((A.take (k + 1)).map PRow.l) = wantL ty z e ((A.take k).map PRow.l) ++ (if ty ≤ ((wantP ty z e (A[k]'hlt).l).length : Int) then [wantP ty z e (A[k]'hlt).l] else [])) := by
                show _ = _
                rw [List.take_succ_eq_append_getElem hlt, List.map_append, List.map_singleton, wantL_snoc]
              have TI : Hid ((∀ p ∈ (A[k]'hlt).l, (scl z e p).inside (-z.b) (e + z.b) = true) → AllIn z e ((A.take (k + 1)).map PRow.l)) := fun hh l hl => by
                rw [List.take_succ_eq_append_getElem hlt, List.map_append, List.map_singleton] at hl
                rcases List.mem_append.1 hl with hl | hl
                · exact hin.out l hl
                · rw [List.mem_singleton.1 hl]; exact hh
              have BI := Lib.hid (AIN.out _ (List.getElem_mem hlt))
              have BL : Hid ((A[k]'hlt).l.length ≤ 300) := HL.out.2 _ (List.getElem_mem hlt)
              have NL : Hid (rows.length ≤ 40) := by show _ ≤ _; have := hrn.out; have := HL.out.1; omega
              have ST := Lib.hid hst.out
              clear p4 hin hst
              generalize A[k]'hlt = q at *
              obtain ⟨v1, l1⟩ := q
              unfold PRow.rd at r1
              dsimp only at *
              have r1 := r1.lt (by decide)
              obtain ⟨_, X, cx, rfl, x1, x2, -, x4⟩ := r1
              unfold maxLen at x2
              have f3 : wr.cell? ⟨w.heap.size, 3, none⟩ = some (.slice (some ⟨b, o, none⟩) A.length pc) := by rw [cell_of_row _ _ _ _ _ _ (grow_blk ST.out.gr BF.out)]; rfl
              go_wp2_with fail
              clear f3
              go_loopw [10, 9] (fun i s wr => ∃ (j : Nat), j ≤ l1.length ∧ i = .int .i64 j ∧ Hid (∀ p ∈ l1.take j, (scl z e p).inside (-z.b) (e + z.b) = true) ∧ Hid (PSt w3 (.slice ap rows.length cp) s rows ((l1.take j).map (scl z e)) wr)) (fun i _ _ => l1.length - (intOf i).toNat)
              case atStart => exact ⟨0, Nat.zero_le _, rfl, fun p hp => by simp at hp, ST.out⟩
              case round =>
                obtain ⟨j, hj, rfl, hin, hst⟩ := hrel
                have hlen : ((l1.take j).map (scl z e)).length = j := by rw [List.length_map, List.length_take]; omega
                obtain ⟨as', cs', rfl⟩ := own_slice hst.out.os
                rw [hlen]
                rw [hlen] at hst
                by_cases hlt2 : j < l1.length
                · obtain ⟨b2, o2, rfl, hS2, hc2⟩ := x4 (by omega)
                  have e0 := fun W (h : Grow w W) => flat_cells Pt.cells_len h hS2 hc2 hlt2
                  have E0 : Hid (∀ W, Grow w W → W.cell? ⟨b2, o2 + j * 2, none⟩ = some (.int .i64 (l1[j]'hlt2).x) ∧ W.cell? ⟨b2, o2 + j * 2 + 1, none⟩ = some (.int .i64 (l1[j]'hlt2).y)) := fun W h => ⟨e0 W h 0 _ rfl, e0 W h 1 _ rfl⟩
                  have PB := Lib.hid (BI.out _ (List.getElem_mem hlt2))
                  have PI : Hid ((scl z e (l1[j]'hlt2)).inside (-z.b) (e + z.b) = true → ∀ p ∈ l1.take (j + 1), (scl z e p).inside (-z.b) (e + z.b) = true) := fun hh p hp => by
                    rw [List.take_succ_eq_append_getElem hlt2] at hp
                    rcases List.mem_append.1 hp with hp | hp
                    · exact hin.out p hp
                    · rw [List.mem_singleton.1 hp]; exact hh
                  have PM : Hid (Pts ((l1.take (j + 1)).map (scl z e)) = Pts ((l1.take j).map (scl z e)) ++ (scl z e (l1[j]'hlt2)).cells) := by
                    show _ = _
                    rw [List.take_succ_eq_append_getElem hlt2, List.map_append, Pts_app]
                    simp [Pts]
                  have PL : Hid (((l1.take (j + 1)).map (scl z e)).length = j + 1) := by show _ = _; rw [List.length_map, List.length_take]; omega
                  have ST := Lib.hid hst.out
                  have SC := Lib.hid fun W (R : Ending → World → Prop) hR => rscale28_any z e (l1[j]'hlt2) W HZ.out PB.out.1 PB.out.2 (R := R) hR
                  clear e0 hc2 x4 hin hst
                  have IP := Lib.hid fun W (R : Ending → World → Prop) hR => inside_any (scl z e (l1[j]'hlt2)) (-z.b) (e + z.b) W (R := R) hR
                  obtain ⟨sp, hsp⟩ : ∃ sp, scl z e (l1[j]'hlt2) = sp := ⟨_, rfl⟩
                  rw [hsp] at PI PM IP
                  simp only [hsp] at SC
                  clear hsp
                  obtain ⟨sx, sy⟩ := sp
                  generalize l1[j]'hlt2 = x at *
                  obtain ⟨xa, xb⟩ := x
                  unfold Pt.cells at SC IP PM
                  dsimp only at E0 SC IP PM
                  have f3 : wr.cell? ⟨w.heap.size, 3, none⟩ = some (.slice (some ⟨b, o, none⟩) A.length pc) := by rw [cell_of_row _ _ _ _ _ _ (grow_blk ST.out.gr BF.out)]; rfl
                  have c1 := C1.out _ (GA.out.tr ST.out.gr)
                  go_upto_region 11 with fail
                  clear f3 c1
                  refine wp_region_free1At ⟨11, some 11, 36, #[.int .i64 0, .int .i64 0]⟩ 12 [0, 1, 2, 3, 4, 5, 6, 7, 8, 9, 10] (by kernel_rfl) (by kernel_rfl) ⟨_, rfl, rfl, rfl, fun a W K h => by go_simp; exact h⟩ (by intro c a d v w h; cases d <;> exact h) u11 rfl ?_
                  have ST := Lib.hid (ST.out.tr (Grow.refl wr).dr)
                  have GB : Hid (Grow wr.drew wr.drew) := Grow.refl _
                  have EW : Hid (wr.drew.heap.size = wr.heap.size) := rfl
                  generalize wr.drew = wb at *
                  have FA : Hid (∀ W, Grow wb W → (W.cell? ⟨w.heap.size, 3, none⟩ = some (.slice (some ⟨b, o, none⟩) A.length pc) ∧ W.cell? ⟨b, o + k, none⟩ = some (.slice (some ⟨b2, o2, none⟩) l1.length cx)) ∧ W.cell? ⟨b2, o2 + j * 2, none⟩ = some (.int .i64 xa) ∧ W.cell? ⟨b2, o2 + j * 2 + 1, none⟩ = some (.int .i64 xb)) := fun W hW => ⟨⟨by rw [cell_of_row _ _ _ _ _ _ (grow_blk (ST.out.gr.tr hW) BF.out)]; rfl, C1.out _ (GA.out.tr (ST.out.gr.tr hW))⟩, E0.out _ (GA.out.tr (ST.out.gr.tr hW))⟩
                  have BZ1 := Lib.hid (grow_blk ST.out.gr BZ.out)
                  clear E0 C1
                  apply fr1_take; exact rfl; (simp); (intro x1; exact rfl)
                  · intro x1 W' hW
                    obtain ⟨⟨z0, z1⟩, z2, z3⟩ := FA.out W' (GB.out.tr hW)
                    clear hW
                    simp only [Act.put, List.setIfInBounds_toArray, List.set_cons_zero, List.set_cons_succ]
                    go_simp
                    with_reducible rfl
                  simp only [Act.put, List.setIfInBounds_toArray, List.set_cons_zero, List.set_cons_succ]
                  apply fr1_take; exact rfl; (simp); (intro x1; exact rfl)
                  · intro x1 W' hW
                    obtain ⟨⟨z0, z1⟩, z2, z3⟩ := FA.out W' (GB.out.tr hW)
                    clear hW
                    simp only [Act.put, List.setIfInBounds_toArray, List.set_cons_zero, List.set_cons_succ]
                    go_simp
                    with_reducible rfl
                  simp only [Act.put, List.setIfInBounds_toArray, List.set_cons_zero, List.set_cons_succ]
                  apply fr1_take; exact rfl; (simp); (intro x1; exact rfl)
                  · intro x1 W' hW
                    obtain ⟨⟨z0, z1⟩, z2, z3⟩ := FA.out W' (GB.out.tr hW)
                    clear hW
                    simp only [Act.put, List.setIfInBounds_toArray, List.set_cons_zero, List.set_cons_succ]
                    go_simp
                    with_reducible rfl
                  simp only [Act.put, List.setIfInBounds_toArray, List.set_cons_zero, List.set_cons_succ]
                  apply fr1_take; exact rfl; (simp); (intro x1; exact rfl)
                  · intro x1 W' hW
                    obtain ⟨⟨z0, z1⟩, z2, z3⟩ := FA.out W' (GB.out.tr hW)
                    clear hW
                    simp only [Act.put, List.setIfInBounds_toArray, List.set_cons_zero, List.set_cons_succ]
                    go_simp
                    with_reducible rfl
                  simp only [Act.put, List.setIfInBounds_toArray, List.set_cons_zero, List.set_cons_succ]
                  apply fr1_take; exact rfl; (simp); (intro x1; exact rfl)
                  · intro x1 W' hW
                    obtain ⟨⟨z0, z1⟩, z2, z3⟩ := FA.out W' (GB.out.tr hW)
                    clear hW
                    simp only [Act.put, List.setIfInBounds_toArray, List.set_cons_zero, List.set_cons_succ]
                    go_simp
                    with_reducible rfl
                  simp only [Act.put, List.setIfInBounds_toArray, List.set_cons_zero, List.set_cons_succ]
                  apply fr1_take; exact rfl; (simp); (intro x1; exact rfl)
                  · intro x1 W' hW
                    obtain ⟨⟨z0, z1⟩, z2, z3⟩ := FA.out W' (GB.out.tr hW)
                    clear hW
                    simp only [Act.put, List.setIfInBounds_toArray, List.set_cons_zero, List.set_cons_succ]
                    go_simp
                    with_reducible rfl
                  simp only [Act.put, List.setIfInBounds_toArray, List.set_cons_zero, List.set_cons_succ]
                  apply fr1_take; exact rfl; (simp); (intro x1; exact rfl)
                  · intro x1 W' hW
                    obtain ⟨⟨z0, z1⟩, z2, z3⟩ := FA.out W' (GB.out.tr hW)
                    clear hW
                    simp only [Act.put, List.setIfInBounds_toArray, List.set_cons_zero, List.set_cons_succ]
                    go_simp
                    with_reducible rfl
                  simp only [Act.put, List.setIfInBounds_toArray, List.set_cons_zero, List.set_cons_succ]
                  apply fr1_take; exact rfl; (simp); (intro x1; exact rfl)
                  · intro x1 W' hW
                    obtain ⟨⟨z0, z1⟩, z2, z3⟩ := FA.out W' (GB.out.tr hW)
                    clear hW
                    simp only [Act.put, List.setIfInBounds_toArray, List.set_cons_zero, List.set_cons_succ]
                    go_simp
                    with_reducible rfl
                  simp only [Act.put, List.setIfInBounds_toArray, List.set_cons_zero, List.set_cons_succ]
                  apply fr1_take; exact rfl; (simp); (intro x1; exact rfl)
                  · intro x1 W' hW
                    exact exec_load_row 28 _ rfl (w.heap.size + 1) rfl 28 _ _ _ (grow_blk (GB.out.tr hW) BZ1.out) rfl Try.underlying28 (by kernel_rfl)
                  simp only [Act.put, List.setIfInBounds_toArray, List.set_cons_zero, List.set_cons_succ]
                  apply fr1_take; exact rfl; (simp); (intro x1; exact rfl)
                  · intro x1 W' hW
                    obtain ⟨⟨z0, z1⟩, z2, z3⟩ := FA.out W' (GB.out.tr hW)
                    clear hW
                    simp only [Act.put, List.setIfInBounds_toArray, List.set_cons_zero, List.set_cons_succ]
                    go_simp
                    with_reducible rfl
                  simp only [Act.put, List.setIfInBounds_toArray, List.set_cons_zero, List.set_cons_succ]
                  apply fr1_turn; exact rfl; exact rfl; (simp); (intro x1; exact rfl)
                  intro x1 W5 hW K hK
                  simp only [Act.put, List.setIfInBounds_toArray, List.set_cons_zero, List.set_cons_succ]
                  go_simp
                  try go_at_call 14
                  refine SC.out _ _ ?_
                  intro w5 hg5
                  have GB := Lib.hid (GB.out.tr (hW.tr hg5))
                  refine hK.out _ _ hg5 ?_
                  clear hK hW hg5 SC FA
                  simp only [Act.put, List.setIfInBounds_toArray, List.set_cons_zero, List.set_cons_succ]
                  refine fr1_nil ?_
                  intro fb U hU hbf
                  have GB := Lib.hid (GB.out.tr hU)
                  have L1 : Hid (wb.heap.size ≤ fb) := by have hb1 := hbf.2.1; have := EW.out; show _ ≤ _; omega
                  have F0 : Hid (U.heap[fb]? = some (.cells #[.int .i64 0, .int .i64 0] 36 (0, 0))) := hbf.1
                  clear hU hbf
                  unfold ptrTo
                  simp only [Act.put, List.setIfInBounds_toArray, List.set_cons_zero, List.set_cons_succ, List.drop_succ_cons, List.drop_zero]
                  go_upto_region 12 with (refine wpList_store_row rfl 36 _ _ rfl fb #[.int .i64 sx, .int .i64 sy] rfl rfl 36 _ F0.out (by kernel_rfl) rfl (by simp [Value.oneCell']) ?_)
                  have FP : Hid ((U.setRow fb #[.int .i64 sx, .int .i64 sy]).heap[fb]? = some (.cells #[.int .i64 sx, .int .i64 sy] 36 (0, 0))) := setRow_heap _ _ _ _ _ _ F0.out
                  have GC : Hid (Grow wb (U.setRow fb #[.int .i64 sx, .int .i64 sy])) := GB.out.row2 L1.out _
                  clear F0 GB L1
                  generalize U.setRow fb #[.int .i64 sx, .int .i64 sy] = w6 at *
                  have ST := Lib.hid (ST.out.tr GC.out)
                  have BZ1 := Lib.hid (grow_blk GC.out BZ1.out)
                  clear GC EW
                  have z3 := PtZ.at_ BZ1.out 3
                  simp only [Zm.cells, List.getElem?_cons_zero, List.getElem?_cons_succ] at z3
                  obtain ⟨wl, wh⟩ := LOHI.out
                  go_wp2_with (refine wpList_load_row rfl 36 _ rfl fb rfl 36 _ _ _ FP.out Try.underlying36 rfl (by kernel_rfl) ?_)
                  try go_at_call 9
                  refine IP.out _ _ ?_
                  intro w7 hg7
                  have ST := Lib.hid (ST.out.tr hg7)
                  have FP := Lib.hid (grow_blk hg7 FP.out)
                  clear hg7 IP z3 wl wh BZ1
                  cases hin : (⟨sx, sy⟩ : Pt).inside (-z.b) (e + z.b) with
                  | false =>
                    clear hin
                    have GE := Lib.hid (GA.out.tr ST.out.gr)
                    go_wp2_with fail
                    try go_at_call 7
                    refine live28_any _ ?_
                    intro w9 hg9
                    have G9 := Lib.hid (GE.out.tr hg9)
                    clear hg9
                    go_wp2
                    exact HR.out _ G9.out
                  | true =>
                    have PI := Lib.hid (PI.out hin)
                    clear hin
                    go_upto_region 10 with (first | (refine wpList_load_row rfl 36 _ rfl fb rfl 36 _ _ _ FP.out Try.underlying36 rfl (by kernel_rfl) ?_) | (at_builtin; refine wpList_newAt rfl _ _ rfl el_pt (own_eq ST.out.os hlen rfl) rfl 1 _ rfl _ rfl (by decide) rfl (by simp [Value.oneCell']) (by have := BL.out; omega) ST.out.gr ⟨Nat.le_refl _, ST.out.gr.size⟩ ?_; intro v8 w8 hO8 hg8 hgr8 hb8))
                    have ST := Lib.hid (ST.out.pt (ps' := (l1.take (j + 1)).map (scl z e)) hgr8 (own_eq hO8 PL.out.symm PM.out.symm) (hb8.elim .inl fun h => .inr ⟨_, h, Nat.le_succ _⟩))
                    clear hO8 hg8 hgr8 hb8 PM PL FP
                    go_wp2
                    go_roundw
                    case rel => exact ⟨j + 1, by omega, by go_num, PI.out, ST.out⟩
                    case measure => simp [intOf]; omega
                · obtain rfl : j = l1.length := by omega
                  rw [List.take_length] at hin hst
                  have ST := Lib.hid hst.out
                  have TI := Lib.hid (TI.out hin.out)
                  have RL := Lib.hid hrl.out
                  have NK := Lib.hid hrn.out
                  have BF1 := Lib.hid (grow_blk ST.out.gr BF.out)
                  clear x4 hin hst hrl hrn
                  have f3 : wr.cell? ⟨w.heap.size, 3, none⟩ = some (.slice (some ⟨b, o, none⟩) A.length pc) := by rw [cell_of_row _ _ _ _ _ _ BF1.out]; rfl
                  have f2 : wr.cell? ⟨w.heap.size, 2, none⟩ = some (.int .i64 ty) := by rw [cell_of_row _ _ _ _ _ _ BF1.out]; rfl
                  have c1 := C1.out _ (GA.out.tr ST.out.gr)
                  go_upto_region 15 with fail
                  clear c1 C1
                  by_cases hty : ty = 2
                  · have t2 : (ty == 2) = true := by rw [beq_iff_eq]; exact hty
                    have EP0 : Hid (simple (l1.map (scl z e)) false = wantP ty z e l1) := by show _ = _; unfold wantP; rw [if_pos hty]
                    clear hty
                    go_wp2_with fail
                    try go_at_call 15
                    refine rsimple_any (l1.map (scl z e)) false _ _ wr (Rd.own ST.out.os) (by rw [List.length_map]; have := BL.out; omega) ?_
                    intro r6 w6 hO6 hg6
                    have ST := Lib.hid (ST.out.anew hg6 hO6)
                    have LL0 : Hid ((simple (l1.map (scl z e)) false).length ≤ l1.length) := by show _ ≤ _; have := simple_len (l1.map (scl z e)); rw [List.length_map] at this; exact this
                    clear hO6 hg6 f2 f3 t2 BF1
                    obtain ⟨L, hL⟩ : ∃ L, simple (l1.map (scl z e)) false = L := ⟨_, rfl⟩
                    rw [hL] at ST EP0 LL0
                    clear hL
                    have EP := EP0
                    have LL := LL0
                    clear EP0 LL0
                    obtain ⟨as5, cs5, hsv⟩ := own_slice ST.out.os
                    have hsv' := hsv
                    subst hsv
                    have BF1 := Lib.hid (grow_blk ST.out.gr BF.out)
                    have f2 := cell_of_row _ w.heap.size 2 _ _ (0, 0) BF1.out
                    unfold Ft.cells at f2
                    simp only [List.getElem?_toArray, List.getElem?_cons_zero, List.getElem?_cons_succ] at f2
                    rw [← EP.out] at TW
                    have LB : Hid (L.length ≤ 300) := by show _ ≤ _; have := BL.out; have := LL.out; omega
                    clear EP LL
                    by_cases h5 : ty ≤ (L.length : Int)
                    · have t5 : decide (ty ≤ (L.length : Int)) = true := decide_eq_true h5
                      rw [if_pos h5] at TW
                      clear h5
                      go_upto_region 6 with (at_builtin; refine wpList_newAt rfl _ _ rfl el_row ST.out.op rfl 1 _ rfl _ rfl (by decide) rfl (by simp [Value.oneCell']) (by have := NL.out; omega) ST.out.gr ⟨Nat.le_refl _, ST.out.gr.size⟩ ?_; intro v8 w8 hO8 hg8 hgr8 hb8)
                      have ST := Lib.hid (ST.out.path hgr8 (own_eq hO8 (by simp) (by simp)) (hb8.elim .inl fun h => .inr ⟨_, h, Nat.le_succ _⟩))
                      clear hO8 hg8 hgr8 hb8 f2 t5
                      go_wp2
                      go_roundw
                      case rel => exact ⟨k + 1, _, by omega, by go_num, TI.out, by rw [TW.out, List.map_append, RL.out]; rfl, by rw [List.length_append]; exact Nat.succ_le_succ NK.out, ST.out⟩
                      case measure => simp [intOf]; omega
                    · have t5 : decide (ty ≤ (L.length : Int)) = false := decide_eq_false h5
                      rw [if_neg h5, List.append_nil] at TW
                      clear h5
                      have ST := Lib.hid ST.out.drop
                      go_wp2
                      go_roundw
                      case rel => exact ⟨k + 1, rows, by omega, by go_num, TI.out, by rw [TW.out]; exact RL.out, Nat.le_succ_of_le NK.out, ST.out⟩
                      case measure => simp [intOf]; omega
                  · have t2 : (ty == 2) = false := by rw [beq_eq_false_iff_ne]; exact hty
                    have EP0 : Hid (l1.map (scl z e) = wantP ty z e l1) := by show _ = _; unfold wantP; rw [if_neg hty]
                    have LL0 : Hid ((l1.map (scl z e)).length ≤ l1.length) := by show _ ≤ _; rw [List.length_map]; exact Nat.le_refl _
                    clear hty
                    rw [List.take_length] at hlen
                    rw [← hlen]
                    rw [← hlen] at ST
                    obtain ⟨L, hL⟩ : ∃ L, l1.map (scl z e) = L := ⟨_, rfl⟩
                    rw [hL] at ST EP0 LL0 ⊢
                    clear hL hlen f2 f3 BF1
                    have EP := EP0
                    have LL := LL0
                    clear EP0 LL0
                    have GZ := Lib.hid ST.out.gr
                    obtain ⟨as5, cs5, hsv⟩ := own_slice ST.out.os
                    have hsv' := hsv
                    (clear hsv hsv')
                    have BF1 := Lib.hid (grow_blk ST.out.gr BF.out)
                    have f2 := cell_of_row _ w.heap.size 2 _ _ (0, 0) BF1.out
                    unfold Ft.cells at f2
                    simp only [List.getElem?_toArray, List.getElem?_cons_zero, List.getElem?_cons_succ] at f2
                    rw [← EP.out] at TW
                    have LB : Hid (L.length ≤ 300) := by show _ ≤ _; have := BL.out; have := LL.out; omega
                    clear EP LL
                    by_cases h5 : ty ≤ (L.length : Int)
                    · have t5 : decide (ty ≤ (L.length : Int)) = true := decide_eq_true h5
                      rw [if_pos h5] at TW
                      clear h5
                      go_upto_region 6 with (at_builtin; refine wpList_newAt rfl _ _ rfl el_row ST.out.op rfl 1 _ rfl _ rfl (by decide) rfl (by simp [Value.oneCell']) (by have := NL.out; omega) ST.out.gr ⟨Nat.le_refl _, ST.out.gr.size⟩ ?_; intro v8 w8 hO8 hg8 hgr8 hb8)
                      have ST := Lib.hid (ST.out.path hgr8 (own_eq hO8 (by simp) (by simp)) (hb8.elim .inl fun h => .inr ⟨_, h, Nat.le_succ _⟩))
                      clear hO8 hg8 hgr8 hb8 f2 t5
                      go_wp2
                      go_roundw
                      case rel => exact ⟨k + 1, _, by omega, by go_num, TI.out, by rw [TW.out, List.map_append, RL.out]; rfl, by rw [List.length_append]; exact Nat.succ_le_succ NK.out, ST.out⟩
                      case measure => simp [intOf]; omega
                    · have t5 : decide (ty ≤ (L.length : Int)) = false := decide_eq_false h5
                      rw [if_neg h5, List.append_nil] at TW
                      clear h5
                      have ST := Lib.hid ST.out.drop
                      go_wp2
                      go_roundw
                      case rel => exact ⟨k + 1, rows, by omega, by go_num, TI.out, by rw [TW.out]; exact RL.out, Nat.le_succ_of_le NK.out, ST.out⟩
                      case measure => simp [intOf]; omega
            · obtain rfl : k = A.length := by omega
              rw [List.take_length] at hin hrl
              have ST := Lib.hid hst.out
              have HIN := Lib.hid hin.out
              have RL := Lib.hid hrl.out
              have NK := Lib.hid hrn.out
              clear hin hrl hst hrn p4 AIN LOHI
              have BF1 := Lib.hid (grow_blk ST.out.gr BF.out)
              have BZ1 := Lib.hid (grow_blk ST.out.gr BZ.out)
              have GW := Lib.hid (GA.out.tr ST.out.gr)
              have f3 : wr.cell? ⟨w.heap.size, 3, none⟩ = some (.slice pA A.length pc) := by rw [cell_of_row _ _ _ _ _ _ BF1.out]; rfl
              clear BF BZ
              unfold Ft.cells at BF1
              go_wp2_with (first | (refine wpList_load_row rfl 26 _ rfl w.heap.size rfl 26 _ _ _ BF1.out Try.underlying26 rfl (by kernel_rfl) ?_) | (refine wpList_load_row rfl 28 _ rfl (w.heap.size + 1) rfl 28 _ _ _ BZ1.out Try.underlying28 rfl (by kernel_rfl) ?_))
              try go_at_call 8
              refine FC.out _ GW.out HL.out HZ.out HPR.out H3.out HIN.out _ ?_ ?_
              · intro hw w4 hg4
                obtain rfl : rows = [] := by have := RL.out; rw [hw] at this; simpa using this
                have ST := Lib.hid (ST.out.tr hg4)
                have GW := Lib.hid (GW.out.tr hg4)
                clear hw hg4 RL NK BF1 BZ1 FC
                unfold zeroFt Ft.cells
                dsimp only
                go_upto_region 20 with fail
                have GL : Hid (Grow w4 (w4.alloc (.cells #[.bool false, .int .u64 0, .int .i64 0, .slice none 0 0, .slice none 0 0] 26))) := (Grow.refl _).al _
                have FB : Hid ((w4.alloc (.cells #[.bool false, .int .u64 0, .int .i64 0, .slice none 0 0, .slice none 0 0] 26)).heap[w4.heap.size]? = some (.cells #[.bool false, .int .u64 0, .int .i64 0, .slice none 0 0, .slice none 0 0] 26 (0, 0))) := heap_alloc_new _ _
                generalize w4.alloc (.cells #[.bool false, .int .u64 0, .int .i64 0, .slice none 0 0, .slice none 0 0] 26) = w5 at *
                generalize w4.heap.size = gb at *
                have ST := Lib.hid (ST.out.tr GL.out)
                have GW := Lib.hid (GW.out.tr GL.out)
                have f3 := cell_of_row _ gb 3 _ _ (0, 0) FB.out
                simp only [List.getElem?_toArray, List.getElem?_cons_zero, List.getElem?_cons_succ] at f3
                have SM := Lib.hid fun (R : Ending → World → Prop) hR => rsame9_any (.slice none 0 0) (.slice ap 0 cp) [] [] (fun _ => True) _ (fun _ => True) (fun _ => True) w5 (rd_nil _ _ 1) (fun r hr => nomatch hr) (Rd.own_lt ST.out.op) (fun r hr => nomatch hr) (R := R) hR
                rw [decide_eq_true (show ([] : List PRow).map PRow.l = ([] : List PRow).map PRow.l by rfl)] at SM
                clear GL FB ST
                go_wp2_with fail
                try go_at_call 13
                refine SM.out _ ?_
                intro w6 hg6
                have GW := Lib.hid (GW.out.tr hg6)
                clear hg6 f3 SM
                go_wp2_with fail
                try go_at_call 7
                refine live28_any _ ?_
                intro w9 hg9
                have G9 := Lib.hid (GW.out.tr hg9)
                clear hg9
                go_wp2
                exact HR.out _ G9.out
              · intro hne pv av rows4 w4 hg4 hp4 hr4 hm4 hav
                obtain ⟨_, a4, c4, rfl, -, -, -, -⟩ := hav
                have hp4 := hp4.lt (by decide)
                have HP4 := Lib.hid hp4
                have HR4 := Lib.hid hr4
                obtain ⟨_, p4, q4, rfl, -, -, -, -⟩ := hp4
                have RE : Hid (rows4.map PRow.l = rows.map PRow.l) := hm4.trans RL.out.symm
                have RP : Hid (0 < rows.length) := by
                  show 0 < _
                  rw [← List.length_map (f := PRow.l), RL.out]
                  exact List.length_pos_iff.2 hne
                have ST := Lib.hid (ST.out.tr hg4)
                have GW := Lib.hid (GW.out.tr hg4)
                clear hne hg4 RL NK BF1 BZ1 FC hr4 hm4
                unfold Ft.cells
                dsimp only
                go_upto_region 20 with fail
                have GL : Hid (Grow w4 (w4.alloc (.cells #[.bool h, .int .u64 id, .int .i64 ty, .slice p4 rows4.length q4, .slice a4 n c4] 26))) := (Grow.refl _).al _
                have FB : Hid ((w4.alloc (.cells #[.bool h, .int .u64 id, .int .i64 ty, .slice p4 rows4.length q4, .slice a4 n c4] 26)).heap[w4.heap.size]? = some (.cells #[.bool h, .int .u64 id, .int .i64 ty, .slice p4 rows4.length q4, .slice a4 n c4] 26 (0, 0))) := heap_alloc_new _ _
                generalize w4.alloc (.cells #[.bool h, .int .u64 id, .int .i64 ty, .slice p4 rows4.length q4, .slice a4 n c4] 26) = w5 at *
                generalize w4.heap.size = gb at *
                have ST := Lib.hid (ST.out.tr GL.out)
                have GW := Lib.hid (GW.out.tr GL.out)
                have f3 := cell_of_row _ gb 3 _ _ (0, 0) FB.out
                simp only [List.getElem?_toArray, List.getElem?_cons_zero, List.getElem?_cons_succ] at f3
                have SM := Lib.hid fun (R : Ending → World → Prop) hR => rsame9_any (.slice p4 rows4.length q4) (.slice ap rows.length cp) rows4 rows _ _ _ _ w5 (HP4.out.gr2 (by decide) GL.out) (fun r hr => (HR4.out r hr).gr2 (by decide) GL.out) (Rd.own_lt ST.out.op) (fun r hr => ST.out.each r hr) (R := R) hR
                rw [decide_eq_true RE.out] at SM
                have t0 : decide ((0 : Int) < (rows.length : Int)) = true := by rw [decide_eq_true_eq]; have := RP.out; omega
                clear GL FB ST HP4 HR4 RE
                go_wp2_with fail
                try go_at_call 13
                refine SM.out _ ?_
                intro w6 hg6
                have GW := Lib.hid (GW.out.tr hg6)
                clear hg6 f3 SM
                go_wp2_with fail
                try go_at_call 7
                refine live28_any _ ?_
                intro w9 hg9
                have G9 := Lib.hid (GW.out.tr hg9)
                clear hg9
                go_wp2
                exact HR.out _ G9.out
      · have tp : (pright ty A != 0) = true := by rw [bne_iff_ne]; exact hpr
        generalize pright ty A = pr at *
        clear hpr p4
        go_wp2_with fail
        try go_at_call 7
        refine live28_any _ ?_
        intro w9 hg9
        have G9 := Lib.hid (GA.out.tr hg9)
        clear hg9
        go_wp2
        exact HR.out _ G9.out
end Go.Proofs.Ytfdjdfobhkmlpaa
