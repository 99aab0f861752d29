/-
  TileSames, walked.
-/
import Derived.Test.YtfdjdfobhkmlpaaDoorChecked
import Derived.Test.YtfdjdfobhkmlpaaDoorTPutA
import Derived.Test.YtfdjdfobhkmlpaaDoorTMuch
import Derived.Test.YtfdjdfobhkmlpaaDoorTRSame
namespace Go.Proofs.YtfdjdfobhkmlpaaDoor
open Go.RowKit B

theorem findL_mem {s : ByteArray} : ∀ {L : List LyR} {x : LyR}, findL s L = some x → x ∈ L
  | [], x, h => by cases h
  | y :: L, x, h => by
    unfold findL at h
    split at h
    · injection h with h
      rw [h]
      simp
    · exact List.mem_cons_of_mem _ (findL_mem h)
theorem few_small {x : LyR} (h : SmL x) : Few x.F := ⟨by have := h.2.1; omega, fun f hf => by have := (h.2.2 f hf).2.1; omega⟩
theorem ly_one {w W : World} {S : Nat → Prop} {x : LyR} (h : x.rd w S) (hg : Grow w W) : LysRd (W.alloc (.cells x.cells.toArray 27)) (fun _ => True) (.slice (some ⟨W.heap.size, 0, none⟩) 1 1) [x] := by
  have e : Lys [x] = x.cells := by unfold Lys; simp
  refine ⟨?_, fun y hy => ?_⟩
  · rw [e]
    exact (Rd.lit (size := 3) W x.cells.toArray 27 1 (by decide) rfl).into fun _ _ => trivial
  · rw [List.mem_singleton.1 hy]
    have h2 := h.gr (hg.al (.cells x.cells.toArray 27))
    exact ⟨h2.1.into fun _ _ => trivial, fun f hf => ⟨(h2.2 f hf).1.into fun _ _ => trivial, fun r hr => ((h2.2 f hf).2.1 r hr).into fun _ _ => trivial, (h2.2 f hf).2.2.into fun _ _ => trivial⟩⟩

set_option maxRecDepth 100000 in
set_option maxHeartbeats 32000000 in
theorem tileSames_walk (A B : List LyR) (s : ByteArray) (la lb : Value) (S T : Nat → Prop) (w : World) (hA : LysRd w S la A) (okA : ∀ x ∈ A, x.ok) (rA : Rch A) (hB : LysRd w T lb B) (okB : ∀ x ∈ B, x.ok) (rB : Rch B) (hs : s.size ≤ 9223372036854775807) (hT : Tabs w) {R : Ending → World → Prop}
    (hR : ∀ w', Grow w w' → R (.returned (.bool true)) w') :
    Calls Tryd.prog 3 #[la, lb, .string s] w R := by
  have HR := Lib.hid hR
  have LV := Lib.hid fun W (hg : Grow w W) (R : Ending → World → Prop) hR => live10_any W (hT.gr hg) (R := R) hR
  have MA := Lib.hid fun (R : Ending → World → Prop) h1 h2 => muchT_any la A S w hA okA rA (R := R) h1 h2
  have MB := Lib.hid fun W (hg : Grow w W) (R : Ending → World → Prop) h1 h2 => muchT_any lb B T W (hB.gr hg) okB rB (R := R) h1 h2
  have FI := Lib.hid fun W (hg : Grow w W) (R : Ending → World → Prop) h1 => tfind_any la A s S W (hA.gr hg) (R := R) h1
  have S1 := Lib.hid fun W (hg : Grow w W) (R : Ending → World → Prop) h1 => tsame_any la lb A B S T W (hA.gr hg) (hB.gr hg) (R := R) h1
  have S2 := Lib.hid fun W (hg : Grow w W) (R : Ending → World → Prop) h1 => rsameT_any la lb A B S T W (hA.gr hg) (hB.gr hg) (R := R) h1
  have S3 := Lib.hid fun W (hg : Grow w W) (R : Ending → World → Prop) h1 => tsame_any la la A A S S W (hA.gr hg) (hA.gr hg) (R := R) h1
  obtain ⟨fa1, fa2, fa3, hfa⟩ := hA.1.form
  obtain ⟨fb1, fb2, fb3, hfb⟩ := hB.1.form
  subst hfa hfb
  have HA1 := Lib.hid hA
  have OA := Lib.hid okA
  obtain ⟨hv, hx⟩ := hA
  have HX := Lib.hid hx
  clear hR hT okA rA hB okB rB hx
  have hv := hv.lt (by decide)
  obtain ⟨_, A0, c, e, h1, h2, h3, h4⟩ := hv
  injection e with e1 e2 e3
  subst e1 e2 e3
  unfold maxLen at h2
  go_enter Tryd.func3, Tryd.ntmps3
  go_wp2_with fail
  go_at_call 6
  refine MA.out _ ?_ ?_
  · intro w1 hg1
    have G1 := Lib.hid hg1
    clear hg1
    go_wp2_with fail
    go_at_call 7
    refine LV.out _ (G1.out) _ ?_
    intro w9 hg9
    have FIN := Lib.hid (HR.out _ ((G1.out).tr hg9))
    clear hg9 HR LV
    go_wp2
    exact FIN.out
  intro smA w1 hg1
  have G1 := Lib.hid hg1
  clear hg1 MA
  go_wp2_with fail
  go_at_call 6
  refine MB.out _ G1.out _ ?_ ?_
  · intro w2 hg2
    have G2 := Lib.hid (G1.out.tr hg2)
    clear hg2 G1
    go_wp2_with fail
    go_at_call 7
    refine LV.out _ (G2.out) _ ?_
    intro w9 hg9
    have FIN := Lib.hid (HR.out _ ((G2.out).tr hg9))
    clear hg9 HR LV
    go_wp2
    exact FIN.out
  intro smB w2 hg2
  have G2 := Lib.hid (G1.out.tr hg2)
  have SMA := Lib.hid smA
  clear hg2 G1 MB smB smA
  by_cases h200 : 200 < s.size
  · have t1 : decide (200 < (s.size : Int)) = true := decide_eq_true (by omega)
    have t2 : decide (200 < s.size) = true := decide_eq_true (by omega)
    go_wp2_with fail
    go_at_call 7
    refine LV.out _ (G2.out) _ ?_
    intro w9 hg9
    have FIN := Lib.hid (HR.out _ ((G2.out).tr hg9))
    clear hg9 HR LV
    go_wp2
    exact FIN.out
  have t1 : decide (200 < (s.size : Int)) = false := decide_eq_false (by omega)
  have t2 : decide (200 < s.size) = false := decide_eq_false (by omega)
  go_wp2_with fail
  go_at_call 8
  refine FI.out _ G2.out _ ?_
  intro w3 hg3
  have G3 := Lib.hid (G2.out.tr hg3)
  clear hg3 FI t1 t2 h200 G2
  -- what is found
  obtain ⟨y, hy⟩ : ∃ y, (findL s A).getD zeroLy = y := ⟨_, rfl⟩
  have YR : y.rd w (fun _ => True) ∧ y.ok ∧ Few y.F := by
    rw [← hy]
    cases hf : findL s A with
    | none => exact ⟨⟨Rd.nil, fun f hf => by cases hf⟩, ⟨Nat.zero_le _, by unfold Option.getD zeroLy I64; simp, fun f hf => by cases hf⟩, ⟨by show (0 : Nat) ≤ _; omega, fun f hf => by cases hf⟩⟩
    | some x =>
      have hm := findL_mem hf
      have h2 := HX.out x hm
      exact ⟨⟨h2.1.into fun _ _ => trivial, fun f hf => ⟨(h2.2 f hf).1.into fun _ _ => trivial, fun r hr => ((h2.2 f hf).2.1 r hr).into fun _ _ => trivial, (h2.2 f hf).2.2.into fun _ _ => trivial⟩⟩, OA.out x hm, few_small (SMA.out.2 x hm)⟩
  obtain ⟨yr, yok, yfew⟩ := YR
  have YO := Lib.hid fun W (hg : Grow w W) => ly_one yr hg
  have DI := Lib.hid fun W (hg : Grow w W) (R : Ending → World → Prop) h1 => dict_any y.fv y.F _ _ W (yr.1.gr2 (by decide) hg) (fun f hf => (yr.2 f hf).gr hg) yok.ft yfew (R := R) h1
  have RDI := Lib.hid fun W (hg : Grow w W) (R : Ending → World → Prop) h1 => rdict_any y.fv y.F _ _ W (yr.1.gr2 (by decide) hg) (fun f hf => (yr.2 f hf).gr hg) yfew (R := R) h1
  have LKY := Lib.hid (yfew.lenK y.F.length)
  have LVY := Lib.hid (yfew.lenV y.F.length)
  rw [List.take_length] at LKY LVY
  obtain ⟨Y1, Y2, Y3, hyf⟩ := yr.fm
  rw [hy]
  have HY := Lib.hid hy
  clear hy yr yok yfew OA SMA
  obtain ⟨yn, ye, yv, yF⟩ := y
  dsimp only at hyf
  subst hyf
  unfold LyR.cells at YO ⊢
  dsimp only at YO DI RDI LKY LVY ⊢
  obtain ⟨fb, hfb⟩ : ∃ fb, (findL s A).isSome = fb := ⟨_, rfl⟩
  rw [hfb]
  have HFB := Lib.hid hfb
  clear hfb
  go_upto_region 4 with fail
  have B7 := Lib.hid (BoxH.laid #[.string yn, .int .i64 ye, .slice Y1 Y2 Y3] 27 G3.out)
  generalize w3.alloc (.cells #[.string yn, .int .i64 ye, .slice Y1 Y2 Y3] 27) = w4 at *
  generalize w3.heap.size = p7 at *
  clear G3
  go_wp2_with fail
  have B10 := Lib.hid (BoxH.laid #[.string ⟨#[]⟩, .int .i64 0, .slice none 0 0] 27 B7.out.grow)
  have NE : Hid (p7 ≠ w4.heap.size) := by
    have := B7.out.lt
    show _ ≠ _
    omega
  have B7 := Lib.hid (B7.out.tr ((Grow.refl w4).al (.cells #[.string ⟨#[]⟩, .int .i64 0, .slice none 0 0] 27)))
  generalize w4.alloc (.cells #[.string ⟨#[]⟩, .int .i64 0, .slice none 0 0] 27) = w5 at *
  generalize w4.heap.size = p10 at *
  go_loopw [11, 9] (fun i b wr => ∃ (k : Nat) (is : Bool), k ≤ A.length ∧ i = .int .i64 k ∧ b = .bool is ∧ Hid (BoxH w p7 #[.string yn, .int .i64 ye, .slice Y1 Y2 Y3] 27 wr) ∧
    Hid (if is then fb = true ∧ BoxH w p10 #[.string yn, .int .i64 ye, .slice Y1 Y2 Y3] 27 wr else findL s A = findL s (A.drop k) ∧ BoxH w p10 #[.string ⟨#[]⟩, .int .i64 0, .slice none 0 0] 27 wr)) (fun i b _ => 2 * (A.length - (intOf i).toNat) + (match b with | .bool false => 1 | _ => 0))
  case atStart => exact ⟨0, false, Nat.zero_le _, rfl, rfl, B7.out, rfl, B10.out⟩
  case round =>
    clear B7 B10
    obtain ⟨k, is, hk, rfl, rfl, hB7, hst⟩ := hrel
    cases is with
    | true =>
      obtain ⟨hfb, hB10⟩ := hst.out
      clear hst h4 h3
      subst hfb
      have BA := Lib.hid hB7.out
      have BB := Lib.hid hB10
      clear hB7 hB10 HX NE
      by_cases hkA : k < A.length
      all_goals
        -- BA : the box p7, BB : the box p10, both of y, at the world of the goal; slot 9 = slot 8
        go_wp2_with fail
        go_at_call 9
        refine S1.out _ BA.out.grow _ ?_
        intro c1 w6 hc1 hg6
        have BA6 := Lib.hid (BA.out.tr hg6)
        have BB6 := Lib.hid (BB.out.tr hg6)
        clear hg6 S1 BA BB
        go_wp2_with fail
        go_at_call 10
        refine S2.out _ BA6.out.grow _ ?_
        intro c2 w7 hc2 hg7
        have BA7 := Lib.hid (BA6.out.tr hg7)
        have BB7 := Lib.hid (BB6.out.tr hg7)
        obtain rfl : c1 = c2 := Bool.eq_iff_iff.2 (hc1.trans hc2.symm)
        clear hg7 S2 BA6 BB6 hc1 hc2
        have t5 : (c1 == c1) = true := by simp
        go_wp2_with fail
        go_at_call 9
        refine S3.out _ BA7.out.grow _ ?_
        intro c3 w8 hc3 hg8
        have BA8 := Lib.hid (BA7.out.tr hg8)
        have BB8 := Lib.hid (BB7.out.tr hg8)
        obtain rfl : c3 = true := hc3.2 (by first | rfl | trivial)
        clear hg8 S3 BA7 BB7 hc3 t5
        have BB9 := Lib.hid (BB8.out.tr ((Grow.refl w8).al (.cells #[.string yn, .int .i64 ye, .slice Y1 Y2 Y3] 27)))
        have LA : Hid (LysRd ((w8.alloc (.cells #[.string yn, .int .i64 ye, .slice Y1 Y2 Y3] 27)).alloc (.cells #[.string yn, .int .i64 ye, .slice Y1 Y2 Y3] 27)) (fun _ => True) (.slice (some ⟨w8.heap.size, 0, none⟩) 1 1) [⟨yn, ye, .slice Y1 Y2 Y3, yF⟩]) := (YO.out w8 BA8.out.grow).gr ((Grow.refl _).al (.cells #[.string yn, .int .i64 ye, .slice Y1 Y2 Y3] 27))
        have LB : Hid (LysRd ((w8.alloc (.cells #[.string yn, .int .i64 ye, .slice Y1 Y2 Y3] 27)).alloc (.cells #[.string yn, .int .i64 ye, .slice Y1 Y2 Y3] 27)) (fun _ => True) (.slice (some ⟨w8.heap.size + 1, 0, none⟩) 1 1) [⟨yn, ye, .slice Y1 Y2 Y3, yF⟩]) := by
          have h := YO.out (w8.alloc (.cells #[.string yn, .int .i64 ye, .slice Y1 Y2 Y3] 27)) BB9.out.grow
          rw [World.size_alloc] at h
          exact h
        have x0 := BA8.out.cell 0
        have x1 := BA8.out.cell 1
        have x2 := BA8.out.cell 2
        have z0 := BB9.out.cell 0
        have z1 := BB9.out.cell 1
        have z2 := BB9.out.cell 2
        go_wp2_with fail
        go_at_call 10
        refine rsameT_any _ _ [⟨yn, ye, .slice Y1 Y2 Y3, yF⟩] [⟨yn, ye, .slice Y1 Y2 Y3, yF⟩] _ _ _ LA.out LB.out ?_
        
        intro c4 wa hc4 hga
        have BBa := Lib.hid (BB9.out.tr (((Grow.refl _).al (.cells #[.string yn, .int .i64 ye, .slice Y1 Y2 Y3] 27)).tr hga))
        obtain rfl : c4 = true := hc4.2 (by first | rfl | trivial)
        clear hga BA8 BB8 BB9 hc4 x0 x1 x2 z0 z1 z2
        have z2 := BBa.out.cell 2
        go_wp2_with fail
        go_at_call 11
        refine DI.out _ BBa.out.grow _ ?_
        intro kv vv wb hk hv hgb
        have BBb := Lib.hid (BBa.out.tr hgb)
        have OK1 := Lib.hid hk
        have OV1 := Lib.hid hv
        clear hgb BBa hk hv z2
        have z2 := BBb.out.cell 2
        go_wp2_with fail
        go_at_call 12
        refine RDI.out _ BBb.out.grow _ ?_
        intro kv2 vv2 wc hk hv hgc
        have Gc := Lib.hid (BBb.out.grow.tr hgc)
        have OK2 := Lib.hid hk
        have OV2 := Lib.hid hv
        have OK1 := Lib.hid (own_grow OK1.out hgc)
        have OV1 := Lib.hid (own_grow OV1.out hgc)
        clear hgc BBb hk hv z2
        
        generalize dKF [] (yF.map FtR.pl) = Kf at *
        generalize dVF [] (yF.map FtR.pl) = Vf at *
        obtain ⟨a1, a2, rfl⟩ := own_slice OK1.out
        obtain ⟨a3, a4, rfl⟩ := own_slice OV1.out
        obtain ⟨a5, a6, rfl⟩ := own_slice OK2.out
        obtain ⟨a7, a8, rfl⟩ := own_slice OV2.out
        have lk := LKY.out
        have lv := LVY.out
        have n1 : ((Kf.length : Int) != (Kf.length : Int)) = false := by simp
        have n2 : ((Vf.length : Int) != (Vf.length : Int)) = false := by simp
        go_wp2
        go_loopw [16] (fun i wr => ∃ j n : Nat, j ≤ Kf.length ∧ i = .int .i64 j ∧ wr = wc.drewN n) (fun i _ => Kf.length - (intOf i).toNat)
        case atStart => exact ⟨0, 0, Nat.zero_le _, rfl, rfl⟩
        case round =>
          obtain ⟨j, n, hj, rfl, rfl⟩ := hrel
          by_cases hjl : j < Kf.length
          · obtain ⟨g1, hg1, hc1⟩ := own_at OK1.out (by omega)
            obtain ⟨g2, hg2, hc2⟩ := own_at OK2.out (by omega)
            subst hg1 hg2
            have c1 := hc1 j (.string Kf[j]) (by unfold strs; simp [hjl])
            have c2 := hc2 j (.string Kf[j]) (by unfold strs; simp [hjl])
            clear hc1 hc2
            generalize Kf[j] = x at *
            have tx : (x.toList == x.toList) = true := by rw [beq_iff_eq]
            go_wp2
            go_quiet (fail)
            go_wp2
            go_roundw
            case rel => exact ⟨j + 1, _, by omega, by go_num, rfl⟩
            case measure => simp [intOf]; omega
          · obtain rfl : j = Kf.length := by omega
            go_wp2
            go_loopw [17] (fun i wr => ∃ j n : Nat, j ≤ Vf.length ∧ i = .int .i64 j ∧ wr = wc.drewN n) (fun i _ => Vf.length - (intOf i).toNat)
            case atStart => exact ⟨0, n, Nat.zero_le _, rfl, rfl⟩
            case round =>
              obtain ⟨j, n, hj, rfl, rfl⟩ := hrel
              by_cases hjl : j < Vf.length
              · obtain ⟨g1, hg1, hc1⟩ := own_at OV1.out (by omega)
                obtain ⟨g2, hg2, hc2⟩ := own_at OV2.out (by omega)
                subst hg1 hg2
                have cl1 : ∀ i u, i < 3 → Vf[j].cells[i]? = some u → wc.cell? ⟨g1, j * 3 + i, none⟩ = some u := fun i u hi h => hc1 (j * 3 + i) u (by unfold Vals; rw [flat_at Val.cells 3 Val.cells_len Vf j i hjl hi]; exact h)
                have cl2 : ∀ i u, i < 3 → Vf[j].cells[i]? = some u → wc.cell? ⟨g2, j * 3 + i, none⟩ = some u := fun i u hi h => hc2 (j * 3 + i) u (by unfold Vals; rw [flat_at Val.cells 3 Val.cells_len Vf j i hjl hi]; exact h)
                generalize Vf[j] = x at *
                have c0 := cl1 0 _ (by decide) rfl
                have c1 := cl1 1 _ (by decide) rfl
                have c2 := cl1 2 _ (by decide) rfl
                have d0 := cl2 0 _ (by decide) rfl
                have d1 := cl2 1 _ (by decide) rfl
                have d2 := cl2 2 _ (by decide) rfl
                simp only [Nat.add_zero] at c0 d0
                clear cl1 cl2 hc1 hc2
                go_wp2
                go_quiet (fail)
                go_wp2
                go_roundw
                case rel => exact ⟨j + 1, _, by omega, by go_num, rfl⟩
                case measure => simp [intOf]; omega
              · obtain rfl : j = Vf.length := by omega
                go_wp2_with fail
                go_at_call 7
                refine LV.out _ ((Gc.out.dn n)) _ ?_
                intro w9 hg9
                have FIN := Lib.hid (HR.out _ (((Gc.out.dn n)).tr hg9))
                clear hg9 HR LV
                go_wp2
                exact FIN.out
    | false =>
      obtain ⟨hfd, hB10⟩ := hst.out
      clear hst
      by_cases hlt : k < A.length
      · obtain ⟨b1, o1, rfl, hb1, hc1⟩ := h4 (by omega)
        have ea := fun W (h : Grow w W) => flat_cells LyR.cells_len h hb1 hc1 hlt
        have e1 := ea wr hB10.grow
        have FD := Lib.hid (hfd.trans (findL_drop hlt))
        have fm := (HX.out A[k] (List.getElem_mem hlt)).fm
        clear hc1 h4 h3 hfd
        have HYZ := Lib.hid HY.out
        generalize A[k] = x at *
        obtain ⟨xn, xe, xv, xF⟩ := x
        obtain ⟨X1, X2, X3, hx1⟩ := fm
        dsimp only at hx1
        subst hx1
        have d0 := e1 0 _ rfl
        have d1 := e1 1 _ rfl
        have d2 := e1 2 _ rfl
        simp only [Nat.add_zero] at d0
        dsimp only at FD
        by_cases hkey : xn.toList = s.toList
        · have t : (xn.toList == s.toList) = true := by rw [beq_iff_eq]; exact hkey
          have FD2 : findL s A = some ⟨xn, xe, .slice X1 X2 X3, xF⟩ := FD.out.trans (if_pos (ba_inj hkey))
          have hy := HY.out
          have hf := HFB.out
          rw [FD2] at hy hf
          simp only [Option.getD_some, LyR.mk.injEq, Value.slice.injEq] at hy
          obtain ⟨rfl, rfl, ⟨rfl, rfl, rfl⟩, rfl⟩ := hy
          have HF1 : Hid (fb = true) := hf.symm
          clear FD FD2 hkey hf HYZ
          have E1 : Hid (∀ W, Grow wr W → W.cell? ⟨b1, o1 + k * 3, none⟩ = some (.string xn) ∧ W.cell? ⟨b1, o1 + k * 3 + 1, none⟩ = some (.int .i64 xe) ∧ W.cell? ⟨b1, o1 + k * 3 + 2, none⟩ = some (.slice X1 X2 X3)) := fun W h => ⟨ea W (hB10.grow.tr h) 0 _ rfl, ea W (hB10.grow.tr h) 1 _ rfl, ea W (hB10.grow.tr h) 2 _ rfl⟩
          clear d1 d2 ea e1
          go_upto_region 10 with fail
          have B10 := Lib.hid hB10
          have B7 := Lib.hid hB7.out
          clear hB10 hB7
          refine wp_region_lexT (fun W => Grow wr W) ((Grow.refl wr).dn 1) 5 [0, 1, 2, 3, 4] (by kernel_rfl) (by kernel_rfl) (by intro c a d v w h; cases d <;> exact h) ?_
          have B10 := Lib.hid (B10.out.tr ((Grow.refl wr).dn 1))
          have B7 := Lib.hid (B7.out.tr ((Grow.refl wr).dn 1))
          iterate 5 (apply lext_take; exact rfl; exact rfl; (intro W hW; have c0 := (E1.out W hW).1; have c1 := (E1.out W hW).2.1; have c2 := (E1.out W hW).2.2; (try clear hW); go_simp; with_reducible rfl); try simp only [Act.put, List.setIfInBounds_toArray, List.set_cons_zero, List.set_cons_succ])
          refine lext_nil ?_
          simp only [List.drop_succ_cons, List.drop_zero]
          go_wp2_with (refine wpList_store_row rfl 27 _ _ rfl p10 #[.string xn, .int .i64 xe, .slice X1 X2 X3] rfl rfl 27 _ B10.out.2.2 (by kernel_rfl) rfl (by simp [Value.oneCell']) ?_)
          have R10 := Lib.hid (B10.out.row (cs' := #[.string xn, .int .i64 xe, .slice X1 X2 X3]))
          have R7 : Hid (BoxH w p7 #[.string xn, .int .i64 xe, .slice X1 X2 X3] 27 (World.setRow (wr.drewN 1) p10 #[.string xn, .int .i64 xe, .slice X1 X2 X3])) := ⟨R10.out.1, B7.out.2.1, (setRow_other _ _ _ _ NE.out).trans B7.out.2.2⟩
          go_roundw
          case rel => exact ⟨k + 1, true, by omega, by go_num, rfl, R7.out, HF1.out, R10.out⟩
          case measure => simp [intOf]; omega
        · have t : (xn.toList == s.toList) = false := by rw [beq_eq_false_iff_ne]; exact hkey
          have FD2 : Hid (findL s A = findL s (A.drop (k + 1))) := FD.out.trans (if_neg fun e => hkey (by rw [e]))
          clear FD hkey HYZ ea e1
          go_wp2
          go_roundw
          case rel => exact ⟨k + 1, false, by omega, by go_num, rfl, hB7.out, FD2.out, hB10⟩
          case measure => simp [intOf]; omega
      · obtain rfl : k = A.length := by omega
        rw [List.drop_eq_nil_of_le (Nat.le_refl _)] at hfd
        have hy := HY.out
        have hf := HFB.out
        rw [hfd] at hy hf
        simp only [findL, Option.getD_none, zeroLy, LyR.mk.injEq, Value.slice.injEq] at hy
        obtain ⟨e1, e2, ⟨e3, e4, e5⟩, _⟩ := hy
        obtain rfl : fb = false := hf.symm
        have BA := Lib.hid hB7.out
        have BB : Hid (BoxH w p10 #[.string yn, .int .i64 ye, .slice Y1 Y2 Y3] 27 wr) := by
          rw [← e1, ← e2, ← e3, ← e4, ← e5]
          exact hB10
        clear e1 e2 e3 e4 e5
        clear hB7 hB10 HX NE hf hfd h4 h3
        -- BA : the box p7, BB : the box p10, both of y, at the world of the goal; slot 9 = slot 8
        go_wp2_with fail
        go_at_call 9
        refine S1.out _ BA.out.grow _ ?_
        intro c1 w6 hc1 hg6
        have BA6 := Lib.hid (BA.out.tr hg6)
        have BB6 := Lib.hid (BB.out.tr hg6)
        clear hg6 S1 BA BB
        go_wp2_with fail
        go_at_call 10
        refine S2.out _ BA6.out.grow _ ?_
        intro c2 w7 hc2 hg7
        have BA7 := Lib.hid (BA6.out.tr hg7)
        have BB7 := Lib.hid (BB6.out.tr hg7)
        obtain rfl : c1 = c2 := Bool.eq_iff_iff.2 (hc1.trans hc2.symm)
        clear hg7 S2 BA6 BB6 hc1 hc2
        have t5 : (c1 == c1) = true := by simp
        go_wp2_with fail
        go_at_call 9
        refine S3.out _ BA7.out.grow _ ?_
        intro c3 w8 hc3 hg8
        have BA8 := Lib.hid (BA7.out.tr hg8)
        have BB8 := Lib.hid (BB7.out.tr hg8)
        obtain rfl : c3 = true := hc3.2 (by first | rfl | trivial)
        clear hg8 S3 BA7 BB7 hc3 t5
        have BB9 := Lib.hid (BB8.out.tr ((Grow.refl w8).al (.cells #[.string yn, .int .i64 ye, .slice Y1 Y2 Y3] 27)))
        have LA : Hid (LysRd ((w8.alloc (.cells #[.string yn, .int .i64 ye, .slice Y1 Y2 Y3] 27)).alloc (.cells #[.string yn, .int .i64 ye, .slice Y1 Y2 Y3] 27)) (fun _ => True) (.slice (some ⟨w8.heap.size, 0, none⟩) 1 1) [⟨yn, ye, .slice Y1 Y2 Y3, yF⟩]) := (YO.out w8 BA8.out.grow).gr ((Grow.refl _).al (.cells #[.string yn, .int .i64 ye, .slice Y1 Y2 Y3] 27))
        have LB : Hid (LysRd ((w8.alloc (.cells #[.string yn, .int .i64 ye, .slice Y1 Y2 Y3] 27)).alloc (.cells #[.string yn, .int .i64 ye, .slice Y1 Y2 Y3] 27)) (fun _ => True) (.slice (some ⟨w8.heap.size + 1, 0, none⟩) 1 1) [⟨yn, ye, .slice Y1 Y2 Y3, yF⟩]) := by
          have h := YO.out (w8.alloc (.cells #[.string yn, .int .i64 ye, .slice Y1 Y2 Y3] 27)) BB9.out.grow
          rw [World.size_alloc] at h
          exact h
        have x0 := BA8.out.cell 0
        have x1 := BA8.out.cell 1
        have x2 := BA8.out.cell 2
        have z0 := BB9.out.cell 0
        have z1 := BB9.out.cell 1
        have z2 := BB9.out.cell 2
        go_wp2_with fail
        go_at_call 10
        refine rsameT_any _ _ [⟨yn, ye, .slice Y1 Y2 Y3, yF⟩] [⟨yn, ye, .slice Y1 Y2 Y3, yF⟩] _ _ _ LA.out LB.out ?_
        
        intro c4 wa hc4 hga
        have BBa := Lib.hid (BB9.out.tr (((Grow.refl _).al (.cells #[.string yn, .int .i64 ye, .slice Y1 Y2 Y3] 27)).tr hga))
        obtain rfl : c4 = true := hc4.2 (by first | rfl | trivial)
        clear hga BA8 BB8 BB9 hc4 x0 x1 x2 z0 z1 z2
        have z2 := BBa.out.cell 2
        go_wp2_with fail
        go_at_call 11
        refine DI.out _ BBa.out.grow _ ?_
        intro kv vv wb hk hv hgb
        have BBb := Lib.hid (BBa.out.tr hgb)
        have OK1 := Lib.hid hk
        have OV1 := Lib.hid hv
        clear hgb BBa hk hv z2
        have z2 := BBb.out.cell 2
        go_wp2_with fail
        go_at_call 12
        refine RDI.out _ BBb.out.grow _ ?_
        intro kv2 vv2 wc hk hv hgc
        have Gc := Lib.hid (BBb.out.grow.tr hgc)
        have OK2 := Lib.hid hk
        have OV2 := Lib.hid hv
        have OK1 := Lib.hid (own_grow OK1.out hgc)
        have OV1 := Lib.hid (own_grow OV1.out hgc)
        clear hgc BBb hk hv z2
        
        generalize dKF [] (yF.map FtR.pl) = Kf at *
        generalize dVF [] (yF.map FtR.pl) = Vf at *
        obtain ⟨a1, a2, rfl⟩ := own_slice OK1.out
        obtain ⟨a3, a4, rfl⟩ := own_slice OV1.out
        obtain ⟨a5, a6, rfl⟩ := own_slice OK2.out
        obtain ⟨a7, a8, rfl⟩ := own_slice OV2.out
        have lk := LKY.out
        have lv := LVY.out
        have n1 : ((Kf.length : Int) != (Kf.length : Int)) = false := by simp
        have n2 : ((Vf.length : Int) != (Vf.length : Int)) = false := by simp
        go_wp2
        go_loopw [16] (fun i wr => ∃ j n : Nat, j ≤ Kf.length ∧ i = .int .i64 j ∧ wr = wc.drewN n) (fun i _ => Kf.length - (intOf i).toNat)
        case atStart => exact ⟨0, 0, Nat.zero_le _, rfl, rfl⟩
        case round =>
          obtain ⟨j, n, hj, rfl, rfl⟩ := hrel
          by_cases hjl : j < Kf.length
          · obtain ⟨g1, hg1, hc1⟩ := own_at OK1.out (by omega)
            obtain ⟨g2, hg2, hc2⟩ := own_at OK2.out (by omega)
            subst hg1 hg2
            have c1 := hc1 j (.string Kf[j]) (by unfold strs; simp [hjl])
            have c2 := hc2 j (.string Kf[j]) (by unfold strs; simp [hjl])
            clear hc1 hc2
            generalize Kf[j] = x at *
            have tx : (x.toList == x.toList) = true := by rw [beq_iff_eq]
            go_wp2
            go_quiet (fail)
            go_wp2
            go_roundw
            case rel => exact ⟨j + 1, _, by omega, by go_num, rfl⟩
            case measure => simp [intOf]; omega
          · obtain rfl : j = Kf.length := by omega
            go_wp2
            go_loopw [17] (fun i wr => ∃ j n : Nat, j ≤ Vf.length ∧ i = .int .i64 j ∧ wr = wc.drewN n) (fun i _ => Vf.length - (intOf i).toNat)
            case atStart => exact ⟨0, n, Nat.zero_le _, rfl, rfl⟩
            case round =>
              obtain ⟨j, n, hj, rfl, rfl⟩ := hrel
              by_cases hjl : j < Vf.length
              · obtain ⟨g1, hg1, hc1⟩ := own_at OV1.out (by omega)
                obtain ⟨g2, hg2, hc2⟩ := own_at OV2.out (by omega)
                subst hg1 hg2
                have cl1 : ∀ i u, i < 3 → Vf[j].cells[i]? = some u → wc.cell? ⟨g1, j * 3 + i, none⟩ = some u := fun i u hi h => hc1 (j * 3 + i) u (by unfold Vals; rw [flat_at Val.cells 3 Val.cells_len Vf j i hjl hi]; exact h)
                have cl2 : ∀ i u, i < 3 → Vf[j].cells[i]? = some u → wc.cell? ⟨g2, j * 3 + i, none⟩ = some u := fun i u hi h => hc2 (j * 3 + i) u (by unfold Vals; rw [flat_at Val.cells 3 Val.cells_len Vf j i hjl hi]; exact h)
                generalize Vf[j] = x at *
                have c0 := cl1 0 _ (by decide) rfl
                have c1 := cl1 1 _ (by decide) rfl
                have c2 := cl1 2 _ (by decide) rfl
                have d0 := cl2 0 _ (by decide) rfl
                have d1 := cl2 1 _ (by decide) rfl
                have d2 := cl2 2 _ (by decide) rfl
                simp only [Nat.add_zero] at c0 d0
                clear cl1 cl2 hc1 hc2
                go_wp2
                go_quiet (fail)
                go_wp2
                go_roundw
                case rel => exact ⟨j + 1, _, by omega, by go_num, rfl⟩
                case measure => simp [intOf]; omega
              · obtain rfl : j = Vf.length := by omega
                go_wp2_with fail
                go_at_call 7
                refine LV.out _ ((Gc.out.dn n)) _ ?_
                intro w9 hg9
                have FIN := Lib.hid (HR.out _ (((Gc.out.dn n)).tr hg9))
                clear hg9 HR LV
                go_wp2
                exact FIN.out
end Go.Proofs.YtfdjdfobhkmlpaaDoor
