/-
  OverWindows, walked.
-/
import Derived.Test.YtfdjdfobhkmlpaaChecked
import Derived.Test.YtfdjdfobhkmlpaaOvV
import Derived.Test.YtfdjdfobhkmlpaaOvW
import Derived.Test.YtfdjdfobhkmlpaaOvCI
import Derived.Test.YtfdjdfobhkmlpaaSAttr
import Derived.Test.YtfdjdfobhkmlpaaPRightA
namespace Go.Proofs.Ytfdjdfobhkmlpaa
open Go.RowKit B

set_option maxRecDepth 100000 in
set_option maxHeartbeats 16000000 in
theorem overWindows_walk (f : Ft) (z : Zm) (e : Int) (A : List PRow) (B : List Atr) (S S' Sa : Nat → Prop) (w : World) (hp : Rd w S 1 f.pv A.length (A.map PRow.v)) (hA : ∀ r ∈ A, r.rd w S') (hBig : ∀ r ∈ A, r.l.length ≤ 140737488355328) (ha : Rd w Sa 4 f.av B.length (Atrs B)) (hn : B.length * 48 ≤ 140737488355328)
    {R : Ending → World → Prop} (hR : ∀ w', Grow w w' → R (.returned (.bool true)) w') :
    Calls Try.prog 3 #[.agg f.cells.toArray, .agg z.cells.toArray, .int .i64 e] w R := by
  have HR := Lib.hid hR
  clear hR
  have hp := hp.lt (by decide)
  have ha := ha.lt (by decide)
  have HP := Lib.hid hp
  have HA := Lib.hid hA
  have HBG := Lib.hid hBig
  have HAT := Lib.hid ha
  have HN := Lib.hid hn
  obtain ⟨_, aA, ac, hav, -, -, -, -⟩ := ha
  clear hA hn hBig
  obtain ⟨h, id, ty, pv, av⟩ := f
  dsimp only at *
  subst hav
  obtain ⟨_, pA, pc, rfl, p1, p2, p3, p4⟩ := hp
  unfold maxLen at p2
  clear p4 p3
  have MU := Lib.hid fun W (hg : Grow w W) (R : Ending → World → Prop) hR => much28_any _ A _ _ W (HP.out.gr (by decide) hg) (fun r hr => (HA.out r hr).gr2 (by decide) hg) HBG.out (R := R) hR
  have FC := Lib.hid fun W (hg : Grow w W) hl (R : Ending → World → Prop) hb ho => feature_any (⟨h, id, ty, .slice pA A.length pc, .slice aA B.length ac⟩ : Ft) z e A B.length (Atrs B) _ _ _ W (HP.out.gr (by decide) hg) (fun r hr => (HA.out r hr).gr2 (by decide) hg) (HAT.out.gr2 (by decide) hg) Atrs_one HN.out hl (R := R) hb ho
  dsimp only at FC
  obtain ⟨n, hnB⟩ : ∃ n, n = B.length := ⟨_, rfl⟩
  rw [← hnB] at FC HAT ⊢
  have HNB := Lib.hid hnB
  clear hnB
  obtain ⟨wa, hwa⟩ : ∃ wa, wa = (w.alloc (.cells (⟨h, id, ty, .slice pA A.length pc, .slice aA n ac⟩ : Ft).cells.toArray 26)).alloc (.cells z.cells.toArray 28) := ⟨_, rfl⟩
  have GA : Hid (Grow w wa) := by subst hwa; exact ((Grow.refl _).al _).al _
  have BF : Hid (wa.heap[w.heap.size]? = some (.cells (⟨h, id, ty, .slice pA A.length pc, .slice aA n ac⟩ : Ft).cells.toArray 26 (0, 0))) := by
    rw [hwa]
    exact grow_blk ((Grow.refl _).al _) (heap_alloc_new w _)
  have BZ : Hid (wa.heap[w.heap.size + 1]? = some (.cells z.cells.toArray 28 (0, 0))) := by
    have := heap_alloc_new (w.alloc (.cells (⟨h, id, ty, .slice pA A.length pc, .slice aA n ac⟩ : Ft).cells.toArray 26)) (.cells z.cells.toArray 28)
    rw [World.size_alloc] at this
    rw [hwa]
    exact this
  go_enter Try.func3, Try.ntmps3
  go_upto_region 1 with fail
  rw [← hwa]
  clear hwa
  have f3 := cell_of_row _ w.heap.size 3 _ _ (0, 0) BF.out
  have f4 := cell_of_row _ w.heap.size 4 _ _ (0, 0) BF.out
  unfold Ft.cells at f3 f4
  simp only [List.getElem?_toArray, List.getElem?_cons_zero, List.getElem?_cons_succ] at f3 f4
  clear f4
  go_wp2_with fail
  try go_at_call 6
  refine MU.out _ GA.out _ ?_
  intro b w1 hb hg1
  have BF := Lib.hid (grow_blk hg1 BF.out)
  have BZ := Lib.hid (grow_blk hg1 BZ.out)
  have GA := Lib.hid (GA.out.tr hg1)
  clear hg1 MU f3
  cases b with
  | true =>
    clear hb
    go_wp2_with fail
    try go_at_call 7
    refine live28_any _ ?_
    intro w9 hg9
    have G9 := Lib.hid (GA.out.tr hg9)
    clear hg9
    go_wp2
    exact HR.out _ G9.out
  | false =>
    have HL := Lib.hid (hb rfl)
    clear hb
    have f3 := cell_of_row _ w.heap.size 3 _ _ (0, 0) BF.out
    have f4 := cell_of_row _ w.heap.size 4 _ _ (0, 0) BF.out
    unfold Ft.cells at f3 f4
    simp only [List.getElem?_toArray, List.getElem?_cons_zero, List.getElem?_cons_succ] at f3 f4
    clear f3
    by_cases h20 : 20 < n
    · have t20 : decide ((20 : Int) < (n : Int)) = true := by rw [decide_eq_true_eq]; omega
      clear h20
      go_wp2_with fail
      try go_at_call 7
      refine live28_any _ ?_
      intro w9 hg9
      have G9 := Lib.hid (GA.out.tr hg9)
      clear hg9
      go_wp2
      exact HR.out _ G9.out
    · have t20 : decide ((20 : Int) < (n : Int)) = false := by rw [decide_eq_false_iff_not]; omega
      clear h20
      unfold Ft.cells at BF
      go_wp2_with (first | (refine wpList_load_row rfl 26 _ rfl w.heap.size rfl 26 _ _ _ BF.out Try.underlying26 rfl (by kernel_rfl) ?_) | (refine wpList_load_row rfl 28 _ rfl (w.heap.size + 1) rfl 28 _ _ _ BZ.out Try.underlying28 rfl (by kernel_rfl) ?_))
      try go_at_call 8
      clear f4 t20
      refine FC.out _ GA.out ⟨by have := HL.out.1; omega, fun r hr => by have := HL.out.2 r hr; omega⟩ _ ?_ ?_
      · intro _ w4 hg4
        have GA := Lib.hid (GA.out.tr hg4)
        clear hg4 FC BF BZ
        unfold zeroFt Ft.cells
        dsimp only
        go_upto_region 4 with fail
        have GL : Hid (Grow w4 (w4.alloc (.cells #[.bool false, .int .u64 0, .int .i64 0, .slice none 0 0, .slice none 0 0] 26))) := (Grow.refl _).al _
        have FB : Hid ((w4.alloc (.cells #[.bool false, .int .u64 0, .int .i64 0, .slice none 0 0, .slice none 0 0] 26)).heap[w4.heap.size]? = some (.cells #[.bool false, .int .u64 0, .int .i64 0, .slice none 0 0, .slice none 0 0] 26 (0, 0))) := heap_alloc_new _ _
        generalize w4.alloc (.cells #[.bool false, .int .u64 0, .int .i64 0, .slice none 0 0, .slice none 0 0] 26) = w5 at *
        generalize w4.heap.size = gb at *
        have GA := Lib.hid (GA.out.tr GL.out)
        have f2 := cell_of_row _ gb 2 _ _ (0, 0) FB.out
        have f3 := cell_of_row _ gb 3 _ _ (0, 0) FB.out
        simp only [List.getElem?_toArray, List.getElem?_cons_zero, List.getElem?_cons_succ] at f2 f3
        clear GL FB
        go_wp2_with fail
        try go_at_call 7
        refine live28_any _ ?_
        intro w9 hg9
        have G9 := Lib.hid (GA.out.tr hg9)
        clear hg9
        go_wp2
        exact HR.out _ G9.out
      · intro hz hpr hne pv av rows4 w4 hg4 hp4 hr4 hm4 hav
        obtain ⟨b1, b2, -⟩ := pright_len hpr
        have RT := Lib.hid (feat_right hz b1 b2 hm4 hne)
        have FI : Hid (∀ r ∈ rows4, ∀ p ∈ r.l, p.inside (-z.b) (e + z.b) = true) := fun r hr => (feat_in b1 b2 r.l (by rw [← hm4]; exact List.mem_map_of_mem hr)).1
        have w1' : IntKind.i64.wrap (-z.b) = -z.b := by
          obtain ⟨h1, h2, -, -, h5, h6, -⟩ := zright_iff hz
          exact IntWalk.i64_in _ (by omega)
        have w2' : IntKind.i64.wrap (e + z.b) = e + z.b := by
          obtain ⟨h1, h2, -, -, h5, h6, -⟩ := zright_iff hz
          exact IntWalk.i64_in _ (by omega)
        have LOHI := Lib.hid (And.intro w1' w2')
        clear w1' w2' hz hpr hne hm4 b1 b2
        have hav := hav.lt (by decide)
        have HAV := Lib.hid hav
        obtain ⟨_, a4, c4, rfl, -, -, -, -⟩ := hav
        have hp4 := hp4.lt (by decide)
        have HP4 := Lib.hid hp4
        have HR4 := Lib.hid hr4
        obtain ⟨_, p4, q4, rfl, y1, y2, -, y4⟩ := hp4
        unfold maxLen at y2
        have BF := Lib.hid (grow_blk hg4 BF.out)
        have BZ := Lib.hid (grow_blk hg4 BZ.out)
        have GA := Lib.hid (GA.out.tr hg4)
        clear hg4 FC hr4
        unfold Ft.cells
        dsimp only
        go_upto_region 4 with fail
        have GL : Hid (Grow w4 (w4.alloc (.cells #[.bool h, .int .u64 id, .int .i64 ty, .slice p4 rows4.length q4, .slice a4 n c4] 26))) := (Grow.refl _).al _
        have FB : Hid ((w4.alloc (.cells #[.bool h, .int .u64 id, .int .i64 ty, .slice p4 rows4.length q4, .slice a4 n c4] 26)).heap[w4.heap.size]? = some (.cells #[.bool h, .int .u64 id, .int .i64 ty, .slice p4 rows4.length q4, .slice a4 n c4] 26 (0, 0))) := heap_alloc_new _ _
        generalize w4.alloc (.cells #[.bool h, .int .u64 id, .int .i64 ty, .slice p4 rows4.length q4, .slice a4 n c4] 26) = w5 at *
        generalize w4.heap.size = gb at *
        have BF := Lib.hid (grow_blk GL.out BF.out)
        have BZ := Lib.hid (grow_blk GL.out BZ.out)
        have GA := Lib.hid (GA.out.tr GL.out)
        have HAV := Lib.hid (HAV.out.gr2 (by decide) GL.out)
        have HP5 := Lib.hid (HP4.out.gr2 (by decide) GL.out)
        have HR5 : Hid (∀ r ∈ rows4, r.rd w5 (fun _ => True)) := fun r hr => (HR4.out r hr).gr2 (by decide) GL.out
        clear HP4 HR4 GL
        go_wp2_with fail
        go_loopw [9] (fun i wr => ∃ (k : Nat), k ≤ rows4.length ∧ i = .int .i64 k ∧ Hid (Grow w5 wr)) (fun i _ => rows4.length - (intOf i).toNat)
        case atStart => exact ⟨0, Nat.zero_le _, rfl, Grow.refl _⟩
        case round =>
          obtain ⟨k, hk, rfl, hg⟩ := hrel
          by_cases hlt : k < rows4.length
          · have f3 : wr.cell? ⟨gb, 3, none⟩ = some (.slice p4 rows4.length q4) := by rw [cell_of_row _ _ _ _ _ _ (grow_blk hg.out FB.out)]; rfl
            obtain ⟨b, o, rfl, -, -⟩ := y4 (by omega)
            have C1 : Hid (∀ W, Grow w5 W → W.cell? ⟨b, o + k, none⟩ = some (rows4[k]'hlt).v) := fun W hW => by
              have := rd_cell hW HP5.out rfl (i := k) (by simpa using hlt)
              rw [List.getElem_map] at this
              exact this
            have r1 := HR5.out (rows4[k]'hlt) (List.getElem_mem hlt)
            have IN := Lib.hid (FI.out (rows4[k]'hlt) (List.getElem_mem hlt))
            generalize rows4[k]'hlt = q at *
            obtain ⟨v1, l1⟩ := q
            unfold PRow.rd at r1
            dsimp only at *
            have r1 := r1.lt (by decide)
            obtain ⟨_, X, cx, rfl, x1, x2, -, x4⟩ := r1
            unfold maxLen at x2
            go_wp2_with fail
            clear f3
            have HG0 := Lib.hid hg.out
            go_loopw [10] (fun i wr => ∃ (j : Nat), j ≤ l1.length ∧ i = .int .i64 j ∧ Hid (Grow w5 wr)) (fun i _ => l1.length - (intOf i).toNat)
            case atStart => exact ⟨0, Nat.zero_le _, rfl, hg.out⟩
            case round =>
              obtain ⟨j, hj, rfl, hg⟩ := hrel
              have f3 : wr.cell? ⟨gb, 3, none⟩ = some (.slice (some ⟨b, o, none⟩) rows4.length q4) := by rw [cell_of_row _ _ _ _ _ _ (grow_blk hg.out FB.out)]; rfl
              have c1 := C1.out _ hg.out
              by_cases hlt2 : j < l1.length
              · obtain ⟨b2, o2, rfl, hS2, hc2⟩ := x4 (by omega)
                have e0 := fun W (h : Grow w5 W) => flat_cells Pt.cells_len h hS2 hc2 hlt2
                have E0 : Hid (∀ W, Grow w5 W → W.cell? ⟨b2, o2 + j * 2, none⟩ = some (.int .i64 (l1[j]'hlt2).x) ∧ W.cell? ⟨b2, o2 + j * 2 + 1, none⟩ = some (.int .i64 (l1[j]'hlt2).y)) := fun W h => ⟨e0 W h 0 _ rfl, e0 W h 1 _ rfl⟩
                have PI := Lib.hid (IN.out (l1[j]'hlt2) (List.getElem_mem hlt2))
                have IP := Lib.hid fun W (R : Ending → World → Prop) hR => inside_any (l1[j]'hlt2) (-z.b) (e + z.b) W (R := R) hR
                clear e0 hc2 x4
                generalize l1[j]'hlt2 = x at *
                obtain ⟨xa, xb⟩ := x
                unfold Pt.cells at IP
                dsimp only at E0 IP
                go_upto_region 12 with fail
                clear f3 c1
                refine wp_region_lexT (Grow wr.drew) ((Grow.refl _)) 15 [0, 1, 2, 3, 4, 5, 6, 7, 8, 9, 10, 11, 12, 13, 14] (by kernel_rfl) (by kernel_rfl) (by intro c a d v w h; cases d <;> exact h) ?_
                have GD := Lib.hid (hg.out.tr (Grow.refl wr).dr)
                generalize wr.drew = wd at *
                have FA : Hid (∀ W, Grow wd W → ((W.cell? ⟨gb, 3, none⟩ = some (.slice (some ⟨b, o, none⟩) rows4.length q4) ∧ W.cell? ⟨b, o + k, none⟩ = some (.slice (some ⟨b2, o2, none⟩) l1.length cx)) ∧ W.cell? ⟨b2, o2 + j * 2, none⟩ = some (.int .i64 xa) ∧ W.cell? ⟨b2, o2 + j * 2 + 1, none⟩ = some (.int .i64 xb)) ∧ W.cell? ⟨w.heap.size + 1, 3, none⟩ = some (.int .i64 z.b)) := fun W hW => ⟨⟨⟨by rw [cell_of_row _ _ _ _ _ _ (grow_blk (GD.out.tr hW) FB.out)]; rfl, C1.out _ (GD.out.tr hW)⟩, E0.out _ (GD.out.tr hW)⟩, by rw [cell_of_row _ _ _ _ _ _ (grow_blk (GD.out.tr hW) BZ.out)]; rfl⟩
                obtain ⟨wl, wh⟩ := LOHI.out
                iterate 15 (apply lext_take; exact rfl; exact rfl; (intro W hW; obtain ⟨⟨⟨q0, q1⟩, q2, q3⟩, q4⟩ := FA.out W hW; (try clear hW); go_simp; with_reducible rfl); try simp only [Act.put, List.setIfInBounds_toArray, List.set_cons_zero, List.set_cons_succ])
                refine lext_nil ?_
                simp only [List.drop_succ_cons, List.drop_zero]
                clear FA E0 C1
                go_wp2_with fail
                try go_at_call 9
                refine IP.out _ _ ?_
                intro w7 hg7
                have GD := Lib.hid (GD.out.tr hg7)
                rw [PI.out]
                clear hg7 IP wl wh PI
                go_wp2
                go_roundw
                case rel => exact ⟨j + 1, by omega, by go_num, GD.out⟩
                case measure => simp [intOf]; omega
              · obtain rfl : j = l1.length := by omega
                go_wp2
                go_roundw
                case rel => exact ⟨k + 1, by omega, by go_num, hg.out⟩
                case measure => simp [intOf]; omega
          · obtain rfl : k = rows4.length := by omega
            have f3 : wr.cell? ⟨gb, 3, none⟩ = some (.slice p4 rows4.length q4) := by rw [cell_of_row _ _ _ _ _ _ (grow_blk hg.out FB.out)]; rfl
            go_upto_region 14 with fail
            have BF := Lib.hid (grow_blk hg.out BF.out)
            have BZ := Lib.hid (grow_blk hg.out BZ.out)
            have GA := Lib.hid (GA.out.tr hg.out)
            have FB := Lib.hid (grow_blk hg.out FB.out)
            have PR := Lib.hid fun (R : Ending → World → Prop) hR => rright9_any ty (.slice p4 rows4.length q4) rows4 _ _ wr (HP5.out.gr2 (by decide) hg.out) (fun r hr => (HR5.out r hr).gr2 (by decide) hg.out) (R := R) hR
            have HAV := Lib.hid (HAV.out.gr2 (by decide) hg.out)
            clear hg HP5 HR5 y4 FI LOHI f3
            have f0 := cell_of_row _ w.heap.size 0 _ _ (0, 0) BF.out
            have f1 := cell_of_row _ w.heap.size 1 _ _ (0, 0) BF.out
            have f2 := cell_of_row _ w.heap.size 2 _ _ (0, 0) BF.out
            have f4 := cell_of_row _ w.heap.size 4 _ _ (0, 0) BF.out
            have g0 := cell_of_row _ gb 0 _ _ (0, 0) FB.out
            have g1 := cell_of_row _ gb 1 _ _ (0, 0) FB.out
            have g2 := cell_of_row _ gb 2 _ _ (0, 0) FB.out
            have g3 := cell_of_row _ gb 3 _ _ (0, 0) FB.out
            have g4 := cell_of_row _ gb 4 _ _ (0, 0) FB.out
            simp only [List.getElem?_toArray, List.getElem?_cons_zero, List.getElem?_cons_succ] at f0 f1 f2 f4 g0 g1 g2 g3 g4
            go_wp2_with fail
            try go_at_call 10
            refine PR.out _ ?_
            intro w8 hg8
            rw [RT.out]
            clear f0 f1 f2 f4 g0 g1 g2 g3 g4 PR RT
            have BF := Lib.hid (grow_blk hg8 BF.out)
            have BZ := Lib.hid (grow_blk hg8 BZ.out)
            have GA := Lib.hid (GA.out.tr hg8)
            have FB := Lib.hid (grow_blk hg8 FB.out)
            have HAV := Lib.hid (HAV.out.gr2 (by decide) hg8)
            clear hg8
            have f0 := cell_of_row _ w.heap.size 0 _ _ (0, 0) BF.out
            have f1 := cell_of_row _ w.heap.size 1 _ _ (0, 0) BF.out
            have f2 := cell_of_row _ w.heap.size 2 _ _ (0, 0) BF.out
            have f4 := cell_of_row _ w.heap.size 4 _ _ (0, 0) BF.out
            have g0 := cell_of_row _ gb 0 _ _ (0, 0) FB.out
            have g1 := cell_of_row _ gb 1 _ _ (0, 0) FB.out
            have g2 := cell_of_row _ gb 2 _ _ (0, 0) FB.out
            have g3 := cell_of_row _ gb 3 _ _ (0, 0) FB.out
            have g4 := cell_of_row _ gb 4 _ _ (0, 0) FB.out
            simp only [List.getElem?_toArray, List.getElem?_cons_zero, List.getElem?_cons_succ] at f0 f1 f2 f4 g0 g1 g2 g3 g4
            have SA := Lib.hid fun (R : Ending → World → Prop) hR => sameAttrs_any (.slice a4 n c4) (.slice aA n ac) B B _ _ w8 (by rw [← HNB.out]; exact HAV.out) (by rw [← HNB.out]; exact HAT.out.gr2 (by decide) GA.out) (R := R) hR
            rw [decide_eq_true (show B.map Atr.pl = B.map Atr.pl from rfl)] at SA
            go_wp2_with fail
            try go_at_call 11
            refine SA.out _ ?_
            intro w10 hg10
            have GA := Lib.hid (GA.out.tr hg10)
            clear hg10 SA f0 f1 f2 f4 g0 g1 g2 g3 g4 HAV FB BF BZ
            go_wp2_with fail
            try go_at_call 7
            refine live28_any _ ?_
            intro w9 hg9
            have G9 := Lib.hid (GA.out.tr hg9)
            clear hg9
            go_wp2
            exact HR.out _ G9.out
end Go.Proofs.Ytfdjdfobhkmlpaa
