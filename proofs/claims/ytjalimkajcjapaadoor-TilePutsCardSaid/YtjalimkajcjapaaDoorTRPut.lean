/-
  The reference's Put of tiles, walked.
-/
import Derived.Test.YtjalimkajcjapaaDoorChecked
import Derived.Test.YtjalimkajcjapaaDoorTLayA
import Derived.Test.YtjalimkajcjapaaDoorVRPut
import Derived.Deep.Cut
namespace Go.Proofs.YtjalimkajcjapaaDoor
open Go.RowKit B

theorem FS.one {W : World} {base : Nat} (f : Fld) (hb : base ≤ W.heap.size) (h : I64 f.num ∧ I64 f.kind ∧ f.int < 18446744073709551616 ∧ DatR W f.dv f.data) :
    FS base (.slice (some ⟨W.heap.size, 0, none⟩) 1 1) [f] (W.alloc (.cells f.cells.toArray 51)) := by
  refine ⟨?_, fun g hg => ?_⟩
  · have e : [f].flatMap Fld.cells = f.cells := by simp
    rw [e]
    exact World.ownsRow_lit (size := 4) W f.cells.toArray 1 hb (by decide) rfl
  · rw [List.mem_singleton.1 hg]
    exact ⟨h.1, h.2.1, h.2.2.1, h.2.2.2.gr ((Grow.refl W).al _)⟩

theorem old_cell {w W : World} {a : Addr} {v : Value} (hg : Grow w W) (h : w.cell? a = some v) : W.cell? a = some v := (hg.cell (World.block_lt_of_cell? w _ h)).trans h

theorem strs_flat (l : List ByteArray) : strs l = l.flatMap (fun s => [Value.string s]) := by
  induction l with
  | nil => rfl
  | cons a l ih => rw [List.flatMap_cons, ← ih]; rfl

set_option maxRecDepth 100000 in
set_option maxHeartbeats 32000000 in
theorem rtput_any (lv : Value) (L : List LyR) (S : Nat → Prop) (w : World) (hl : LysRd w S lv L) (hok : ∀ x ∈ L, x.ok) (hT : Tabs w) (hn : L.length ≤ 300) (hz : ∀ x ∈ L, LyOkP x.pl) (hr : rightT (L.map LyR.pl) = true) {R : Ending → World → Prop}
    (hR : ∀ r w', w'.ownsRow w.heap.size 5 1 r (putT (L.map LyR.pl)).length (U8 (putT (L.map LyR.pl))) → Grow w w' → R (.returned r) w') :
    Calls Tryd.prog 11 #[lv] w R := by
  have RT := Lib.hid (rightT_one hr)
  have HR := Lib.hid hR
  have HZ := Lib.hid hz
  have OK := Lib.hid hok
  have HT := Lib.hid hT
  obtain ⟨hv, hx⟩ := hl
  have HX := Lib.hid hx
  clear hR hz hok hT hx hr
  have hv := hv.lt (by decide)
  obtain ⟨_, A, c, rfl, h1, h2, h3, h4⟩ := hv
  unfold maxLen at h2
  go_enter Tryd.func11, Tryd.ntmps11
  go_wp2
  go_loopw [4, 3] (fun i ov wr => ∃ k : Nat, k ≤ L.length ∧ i = .int .i64 k ∧ Hid (∃ outs : List Fld, outs.map Fld.fd = (L.take k).map (fun x => (⟨3, 2, 0, (lyP x.pl).flatMap fdput⟩ : FD)) ∧ FS w.heap.size ov outs wr) ∧ Hid (Grow w wr)) (fun i _ _ => L.length - (intOf i).toNat)
  case atStart => exact ⟨0, Nat.zero_le _, rfl, ⟨[], rfl, FS.nil _ _⟩, Grow.refl w⟩
  case round =>
    obtain ⟨k, hk, rfl, ho, hg⟩ := hrel
    by_cases hlt : k < L.length
    · obtain ⟨b1, o1, rfl, hb1, hc1⟩ := h4 (by omega)
      have E1 := Lib.hid fun W (hg : Grow w W) => flat_cells LyR.cells_len hg hb1 hc1 hlt
      have OX := OK.out L[k] (List.getElem_mem hlt)
      have RX := HX.out L[k] (List.getElem_mem hlt)
      have ZX := HZ.out L[k] (List.getElem_mem hlt)
      have TX := RT.out L[k].pl (List.mem_map.2 ⟨_, List.getElem_mem hlt, rfl⟩)
      have TK : Hid ((L.take (k + 1)).map (fun x => (⟨3, 2, 0, (lyP x.pl).flatMap fdput⟩ : FD)) = (L.take k).map (fun x => (⟨3, 2, 0, (lyP x.pl).flatMap fdput⟩ : FD)) ++ [⟨3, 2, 0, (lyP L[k].pl).flatMap fdput⟩]) := by show _ = _; rw [List.take_succ_eq_append_getElem hlt, List.map_append]; rfl
      clear hc1 h4 h3 HR
      have FW := Lib.hid (few_of ZX)
      have KO := Lib.hid (dK_ok ZX)
      have VO := Lib.hid (dV_ok ZX OX)
      have LL := Lib.hid (lyP_len2 ZX TX.2)
      have LG := Lib.hid (lyP_good ZX TX.1 TX.2)
      generalize L[k] = x at *
      have LY : Hid (lyP x.pl = [⟨1, 2, 0, tx x.nm⟩] ++ x.F.map (fun f => (⟨2, 2, 0, (ftP (dKF [] (x.F.map FtR.pl)) (dVF [] (x.F.map FtR.pl)) f.pl).flatMap fdput⟩ : FD)) ++ (dKF [] (x.F.map FtR.pl)).map (fun k => ⟨3, 2, 0, tx k⟩) ++ (dVF [] (x.F.map FtR.pl)).map (fun v => ⟨4, 2, 0, putV v⟩) ++ [⟨5, 0, x.ext.toNat, []⟩, ⟨15, 0, 2, []⟩]) := by
        show lyP x.pl = _
        unfold lyP lyG LyR.pl
        dsimp only
        rw [List.map_map]
        rfl
      obtain ⟨zx1, zx2, zx3⟩ := ZX
      obtain ⟨tx1, tx2⟩ := TX
      have DI := Lib.hid fun W (hg : Grow w W) (R : Ending → World → Prop) hR => rdict_any x.fv x.F _ _ W (RX.1.gr2 (by decide) hg) (fun f hf => (RX.2 f hf).gr hg) FW.out (R := R) hR
      obtain ⟨r1, r2⟩ := RX
      have RFE : Hid (∀ f ∈ x.F, f.rd w (· < w.heap.size)) := fun f hf => (r2 f hf).lt
      have OF := Lib.hid OX.ft
      have ZF : Hid (∀ f ∈ x.F, FtOkP f.pl ∧ rightF f.pl = true) := fun f hf => ⟨zx3 _ (List.mem_map.2 ⟨f, hf, rfl⟩), List.all_eq_true.1 tx2 _ (List.mem_map.2 ⟨f, hf, rfl⟩)⟩
      have VPL : Hid (∀ v ∈ dVF [] (x.F.map FtR.pl), plainV v = v) := dVF_all (fun v => plainV v = v) _ [] (by simp) fun f hf a ha => ((zx3 f hf).2.2.2.2 a ha).2.2.2
      have MK := Lib.hid (dKF_mem (x.F.map FtR.pl) [])
      have MV := Lib.hid (dVF_mem (x.F.map FtR.pl) [])
      have LK := FW.out.lenK x.F.length
      have LV := FW.out.lenV x.F.length
      rw [List.take_length] at LK LV
      generalize lyP x.pl = LYP at *
      obtain ⟨xn, xe, xv, xF⟩ := x
      dsimp only [LyR.pl] at zx1 tx1 r1 RFE OF ZF LY FW KO VO VPL MK MV LK LV DI
      generalize hKs : dKF [] (xF.map FtR.pl) = Ks at *
      generalize hVs : dVF [] (xF.map FtR.pl) = Vs at *
      have r1 := r1.lt (by decide)
      obtain ⟨_, Y, cy, rfl, y1, y2, y3, y4⟩ := r1
      unfold maxLen at y2
      have EX := Lib.hid (show IntKind.u64.wrap xe = ((xe.toNat : Nat) : Int) by rw [IntKind.wrap_u64]; omega)
      have XE : Hid (xe.toNat < 18446744073709551616) := by show _ < _; omega
      have D0 : Hid (∀ W, Grow w W → W.cell? ⟨b1, o1 + k * 3, none⟩ = some (.string xn)) := fun W hg => E1.out W hg 0 _ rfl
      have D1 : Hid (∀ W, Grow w W → W.cell? ⟨b1, o1 + k * 3 + 1, none⟩ = some (.int .i64 xe)) := fun W hg => E1.out W hg 1 _ rfl
      have D2 : Hid (∀ W, Grow w W → W.cell? ⟨b1, o1 + k * 3 + 2, none⟩ = some (.slice Y xF.length cy)) := fun W hg => E1.out W hg 2 _ rfl
      have HKs := Lib.hid hKs
      have HVs := Lib.hid hVs
      clear OX zx2 zx3 r2 tx2 E1 hKs hVs
      obtain ⟨outs, hom, hF⟩ := ho.out
      obtain ⟨O1, O2, rfl⟩ := own_slice hF.own
      have LO : outs.length ≤ 300 := by
        have := congrArg List.length hom
        simp only [List.length_map, List.length_take] at this
        omega
      rw [← hom] at TK
      have FO := Lib.hid hF
      clear ho hom hF
      have d2 := D2.out wr hg.out
      go_wp2_with fail
      go_at_call 24
      refine DI.out _ hg.out _ ?_
      intro kv vv w1 hok1 hov1 hg1
      have FO1 := Lib.hid (FO.out.gr hg1)
      have G1 := Lib.hid (hg.out.tr hg1)
      have KV := Lib.hid (Rd.own_lt hok1)
      have VV := Lib.hid (Rd.own_lt hov1)
      obtain ⟨K1, K2, rfl⟩ := own_slice hok1
      obtain ⟨V1, V2, rfl⟩ := own_slice hov1
      clear hok1 hov1 hg1 FO hg d2 DI
      have d0 := D0.out w1 G1.out
      have hcv := conv_bytes
      go_wp2_with fail
      go_at_call 25
      refine data_any 1 _ _ _ _ ?_
      intro w3 hg3
      have G3 := Lib.hid (((grow_bytes w1 5 xn).tr hg3))
      have D3 := Lib.hid ((dat_bytes w1 xn (by unfold maxLen; omega)).gr hg3)
      clear hg3 d0 hcv
      have G13 := Lib.hid (G1.out.tr G3.out)
      have FO3 := Lib.hid (FO1.out.gr G3.out)
      have KV3 := Lib.hid (KV.out.gr2 (by decide) G3.out)
      have VV3 := Lib.hid (VV.out.gr2 (by decide) G3.out)
      have F4 := Lib.hid (FS.one (W := w3) ⟨1, 2, 0, tx xn, .slice (some ⟨w1.heap.size, 0, none⟩) xn.size (grownCap w1 xn.size 0 5)⟩ (Nat.le_refl _) (bytes_fld (num := 1) (by decide) D3.out _ (List.mem_singleton.2 rfl)))
      have G4 : Hid (Grow w3 (w3.alloc (.cells #[.int .i64 1, .int .i64 2, .int .u64 0, .slice (some ⟨w1.heap.size, 0, none⟩) xn.size (grownCap w1 xn.size 0 5)] 51))) := (Grow.refl w3).al _
      clear FO1 KV VV D3 G1 G3
      generalize grownCap w1 xn.size 0 5 = gc at *
      generalize w1.heap.size = wb at *
      go_upto_region 7 with fail
      have F4 : Hid (FS w3.heap.size (.slice (some ⟨w3.heap.size, 0, none⟩) 1 1) [⟨1, 2, 0, tx xn, .slice (some ⟨wb, 0, none⟩) xn.size gc⟩] (w3.alloc (.cells #[.int .i64 1, .int .i64 2, .int .u64 0, .slice (some ⟨wb, 0, none⟩) xn.size gc] 51))) := F4.out
      generalize w3.alloc (.cells #[.int .i64 1, .int .i64 2, .int .u64 0, .slice (some ⟨wb, 0, none⟩) xn.size gc] 51) = w4 at *
      obtain ⟨fb0, hfb0⟩ : ∃ b, w3.heap.size = b := ⟨_, rfl⟩
      rw [hfb0] at F4
      rw [hfb0]
      have B3 := Lib.hid hfb0
      clear hfb0
      go_wp2_with fail
      go_loopw [8, 7] (fun i fv wr => ∃ j : Nat, j ≤ xF.length ∧ i = .int .i64 j ∧ Hid (∃ fs, fs.map Fld.fd = [⟨1, 2, 0, tx xn⟩] ++ (xF.take j).map (fun f => (⟨2, 2, 0, (ftP Ks Vs f.pl).flatMap fdput⟩ : FD)) ∧ FS fb0 fv fs wr) ∧ Hid (Grow w3 wr)) (fun i _ _ => xF.length - (intOf i).toNat)
      case atStart => exact ⟨0, Nat.zero_le _, rfl, ⟨_, rfl, F4.out⟩, G4.out⟩
      case round =>
        clear F4 G4
        obtain ⟨j, hj, rfl, hP, hgr⟩ := hrel
        have GW := Lib.hid (G13.out.tr hgr.out)
        have d2 := D2.out wr GW.out
        by_cases hjl : j < xF.length
        · obtain ⟨b2, o2, rfl, hb2, hc2⟩ := y4 (by omega)
          obtain ⟨fs, hfs, hps⟩ := hP.out
          have e2 := flat_cells FtR.cells_len GW.out hb2 hc2 hjl
          have OJ := OF.out xF[j] (List.getElem_mem hjl)
          have RJ := RFE.out xF[j] (List.getElem_mem hjl)
          have ZJ := ZF.out xF[j] (List.getElem_mem hjl)
          have NJ := FW.out.2 xF[j] (List.getElem_mem hjl)
          have MKJ : Hid (∀ a ∈ xF[j].B, a.key ∈ Ks ∧ plainV a.val ∈ Vs) := fun a ha => ⟨MK.out _ (List.mem_map.2 ⟨_, List.getElem_mem hjl, rfl⟩) a.pl (List.mem_map.2 ⟨a, ha, rfl⟩), MV.out _ (List.mem_map.2 ⟨_, List.getElem_mem hjl, rfl⟩) a.pl (List.mem_map.2 ⟨a, ha, rfl⟩)⟩
          have TJ : Hid ((xF.take (j + 1)).map (fun f => (⟨2, 2, 0, (ftP Ks Vs f.pl).flatMap fdput⟩ : FD)) = (xF.take j).map (fun f => (⟨2, 2, 0, (ftP Ks Vs f.pl).flatMap fdput⟩ : FD)) ++ [⟨2, 2, 0, (ftP Ks Vs xF[j].pl).flatMap fdput⟩]) := by
            show _ = _
            rw [List.take_succ_eq_append_getElem hjl, List.map_append]
            rfl
          have GP := Lib.hid (ftP_good (K := Ks) (V := Vs) ZJ.1 ZJ.2)
          have SL : fs.length ≤ 301 := by
            have h1 := congrArg List.length hfs
            have h2 := FW.out.1
            simp only [List.length_append, List.length_map, List.length_take, List.length_singleton] at h1
            omega
          clear hc2
          generalize xF[j] = y at *
          have RJ2 := RJ.fm
          obtain ⟨X1, X2, X3, X4, X5, X6, hx1, hx2⟩ := RJ2
          obtain ⟨zj1, zj2⟩ := ZJ
          obtain ⟨zi1, zi2, zi3, zi4, zi5⟩ := zj1
          have AB := Lib.hid OJ.atr
          have HID := Lib.hid OJ.id
          obtain ⟨⟨yh, yi, yt, yp, yv⟩, yA, yB⟩ := y
          dsimp only at hx1 hx2
          subst hx1 hx2
          obtain ⟨rt1, -, -⟩ := (rightF_iff _).1 zj2
          obtain ⟨ty1, -, -, nr⟩ := pright_ok rt1
          dsimp only at rt1 ty1 nr zi2 zi3 HID AB NJ
          have EB : Hid (∀ x ∈ encS yt (yA.map PRow.l), 0 ≤ x ∧ x ≤ 4294967295) := fun x hx => encS_bd _ _ (fun p hp => by obtain ⟨r, hr, rfl⟩ := List.mem_map.1 hp; exact ⟨zi3 _ (List.mem_map.2 ⟨r, hr, rfl⟩), (nr r hr).2⟩) x hx
          have PE := Lib.hid fun W (hg : Grow w W) (R : Ending → World → Prop) hR => rencode_any yt (.slice X1 X2 X3) yA _ _ W (RJ.1.gr2 (by decide) hg) (fun r hr => Rd.gr2 (RJ.2.1 r hr) (by decide) hg) rt1 zi2 (R := R) hR
          have AR := Lib.hid fun W (hg : Grow w W) => RJ.2.2.gr2 (by decide) hg
          have EU := Lib.hid (u64_ty yt ty1)
          have FTP : Hid (ftP Ks Vs (FtR.pl ⟨⟨yh, yi, yt, .slice X1 X2 X3, .slice X4 X5 X6⟩, yA, yB⟩) = (if yh then [⟨1, 0, yi, []⟩] else []) ++ (if yB.map Atr.pl = [] then [] else [⟨2, 2, 0, pack (tagsP Ks Vs (yB.map Atr.pl))⟩]) ++ [⟨3, 0, yt.toNat, []⟩, ⟨4, 2, 0, pack (encS yt (yA.map PRow.l))⟩]) := rfl
          generalize ftP Ks Vs (FtR.pl ⟨⟨yh, yi, yt, .slice X1 X2 X3, .slice X4 X5 X6⟩, yA, yB⟩) = FT at *
          have u0 := e2 0 _ rfl
          have u1 := e2 1 _ rfl
          have u2 := e2 2 _ rfl
          have u3 := e2 3 _ rfl
          have u4 := e2 4 _ rfl
          simp only [Nat.add_zero] at u0
          have ZI2 := Lib.hid zi2
          clear e2 OJ zj2 zi1 zi2 zi3 zi4 zi5 RJ nr rt1
          dsimp only at AR
          obtain rfl : X5 = yB.length := by obtain ⟨_, _, _, e, _⟩ := AR.out w (Grow.refl w); injection e
          have PP := Lib.hid hps
          have FS1 := Lib.hid hfs
          clear hfs hps hP
          go_upto_region 12 with fail
          have BX := Lib.hid (BoxH.laid #[.bool yh, .int .u64 yi, .int .i64 yt, .slice X1 X2 X3, .slice X4 yB.length X6] 41 GW.out)
          have GA : Hid (Grow wr (wr.alloc (.cells #[.bool yh, .int .u64 yi, .int .i64 yt, .slice X1 X2 X3, .slice X4 yB.length X6] 41))) := (Grow.refl wr).al _
          clear u0 u1 u2 u3 u4
          generalize wr.alloc (.cells #[.bool yh, .int .u64 yi, .int .i64 yt, .slice X1 X2 X3, .slice X4 yB.length X6] 41) = wa at *
          generalize wr.heap.size = p9 at *
          have x0 := BX.out.cell 0
          go_upto_if 57 with fail
          go_cut [10] from 38 to 120 (fun v wx => Hid (∃ ys, ys.map Fld.fd = (if yh then [(⟨1, 0, yi, []⟩ : FD)] else []) ∧ FS wa.heap.size v ys wx) ∧ Hid (Grow wa wx))
          case first =>
            clear PE AR EB AB MKJ TJ GP FTP PP FS1 D0 D1 D2 MK MV KV3 VV3 FO3
            cases yh with
            | false =>
              go_wp2
              go_meet
              case rel => exact ⟨⟨[], rfl, FS.nil _ _⟩, Grow.refl _⟩
            | true =>
              have x1 := BX.out.cell 1
              go_wp2_with (at_builtin; refine wpList_put rfl _ _ rfl el_fld (FS.nil wa.heap.size wa).own rfl 1 _ rfl _ rfl (by decide) rfl (by simp [Value.oneCell']) (by simp) (Nat.le_refl _) ?_; intro v1 w1 hown1 hgr1 hb1; have YS := Lib.hid ((FS.nil wa.heap.size wa).app (gs := [⟨1, 0, yi, [], .slice none 0 0⟩]) hgr1 (own_eq hown1 (by simp) (by simp [Fld.cells])) (fun f hf => by rw [List.mem_singleton.1 hf]; exact ⟨by unfold I64; simp, by unfold I64; simp, HID.out, DatR.nil _⟩)); have GY := Lib.hid (grow_app (Grow.refl wa) hgr1 fun j e => by cases e); clear hown1 hgr1 hb1)
              go_meet
              case rel => exact ⟨⟨_, rfl, YS.out⟩, GY.out⟩
          case rest =>
            obtain ⟨hy, hgy⟩ := hcut
            obtain ⟨ys, hys, hyf⟩ := hy.out
            have HYS := Lib.hid hys
            have YF := Lib.hid hyf
            have BXc := Lib.hid (BX.out.tr hgy.out)
            have BXa := Lib.hid BX.out
            have GRc := Lib.hid (GA.out.tr hgy.out)
            have GYc := Lib.hid hgy.out
            clear hy hgy hys hyf BX x0
            go_wp2_with fail
            go_loopw [12, 11] (fun i tv wr => ∃ m : Nat, m ≤ yB.length ∧ i = .int .i64 m ∧ Hid (wr.ownsRow wc.heap.size 72 1 tv (tagsP Ks Vs ((yB.take m).map Atr.pl)).length (U32 (tagsP Ks Vs ((yB.take m).map Atr.pl)))) ∧ Hid (Grow wc wr)) (fun i _ _ => yB.length - (intOf i).toNat)
            case atStart => exact ⟨0, Nat.zero_le _, rfl, World.ownsRow_nil _ _ _ _, Grow.refl _⟩
            case round =>
              obtain ⟨m, hm, rfl, hto, hgt⟩ := hrel
              have BXm := Lib.hid (BXc.out.tr hgt.out)
              have x4 := BXm.out.cell 4
              by_cases hml : m < yB.length
              · obtain ⟨b3, o3, rfl, e3⟩ := rd_flat Atr.cells_len (by decide) (AR.out wr BXm.out.grow) hml
                have TS := Lib.hid (tags_succ Ks Vs hml)
                have MJ := MKJ.out yB[m] (List.getElem_mem hml)
                have OA := AB.out yB[m] (List.getElem_mem hml)
                generalize yB[m] = a at *
                obtain ⟨ak, av⟩ := a
                obtain ⟨vk, vt, vb⟩ := av
                dsimp only at MJ TS OA
                have e0 := e3 0 _ rfl
                have e1 := e3 1 _ rfl
                have e2 := e3 2 _ rfl
                have e4 := e3 3 _ rfl
                simp only [Nat.add_zero] at e0
                have EC : Hid (∀ W, Grow wr W → W.cell? ⟨p9, 4, none⟩ = some (.slice (some ⟨b3, o3, none⟩) yB.length X6) ∧ W.cell? ⟨b3, o3 + m * 4, none⟩ = some (.string ak) ∧ W.cell? ⟨b3, o3 + m * 4 + 1, none⟩ = some (.int .i64 vk) ∧ W.cell? ⟨b3, o3 + m * 4 + 2, none⟩ = some (.string vt) ∧ W.cell? ⟨b3, o3 + m * 4 + 3, none⟩ = some (.int .u64 vb)) := fun W hg =>
                  ⟨(BXm.out.tr hg).cell 4, old_cell hg e0, old_cell hg e1, old_cell hg e2, old_cell hg e4⟩
                obtain ⟨n1, hn1⟩ : ∃ n, ix Ks ak = n := ⟨_, rfl⟩
                obtain ⟨n2, hn2⟩ : ∃ n, ix Vs (plainV ⟨vk, vt, vb⟩) = n := ⟨_, rfl⟩
                have i1 := kix_in MJ.1
                have i2 := kix_in MJ.2
                have l1 := ix_le Ks ak
                have l2 := ix_le Vs (plainV ⟨vk, vt, vb⟩)
                rw [hn1] at TS i1 l1
                rw [hn2] at TS i2 l2
                have W1 := Lib.hid (u32_ix n1 (by omega))
                have W2 := Lib.hid (u32_ix n2 (by omega))
                have KA := Lib.hid fun W (hg : Grow w3 W) (R : Ending → World → Prop) (hR : R (.returned (.int .i64 (n1 : Int))) W) => key_any Ks (.slice K1 Ks.length K2) ak _ W (KV3.out.gr2 (by decide) hg) (R := R) (i1.symm ▸ hR)
                have VA := Lib.hid fun W (hg : Grow w3 W) (R : Ending → World → Prop) (hR : ∀ w', Grow W w' → R (.returned (.int .i64 (n2 : Int))) w') => val_any Vs (.slice V1 Vs.length V2) ⟨vk, vt, vb⟩ _ W (VV3.out.gr2 (by decide) hg) VPL.out (R := R) (fun w' hg => i2.symm ▸ hR w' hg)
                clear e0 e1 e2 e3 e4 MJ OA hn1 hn2 i1 i2
                have TO := Lib.hid hto.out
                have G3r := Lib.hid ((hgr.out.tr GRc.out).tr hgt.out)
                clear hto
                have BL : Hid ((tagsP Ks Vs ((yB.take m).map Atr.pl)).length ≤ 600) := by show _ ≤ _; rw [tags_len, List.length_map, List.length_take]; omega
                generalize tagsP Ks Vs ((yB.take m).map Atr.pl) = ts at *
                go_upto_region 18 with fail
                clear x4
                obtain ⟨T1, T2, rfl⟩ := own_slice TO.out
                refine wp_region_lexT (fun W => Grow wr W) ((Grow.refl _).dr) 20 [0, 1, 2, 3, 4, 5, 6, 7, 10, 11, 12, 13, 14, 15, 16, 8, 9, 17, 18, 19] (by kernel_rfl) (by kernel_rfl) (by intro c a d v w h; cases d <;> exact h) ?_
                iterate 15 (apply lext_take; exact rfl; exact rfl; (intro W hW; obtain ⟨q0, q1, q2, q3, q4⟩ := EC.out W hW; (try clear hW); go_simp; with_reducible rfl); try simp only [Act.put, List.setIfInBounds_toArray, List.set_cons_zero, List.set_cons_succ])
                apply lext_turn; exact rfl; exact rfl; exact rfl; intro K hK; go_simp; go_at_call 26; refine KA.out _ G3r.out.dr _ ?_
                refine hK.out _ _ (Grow.refl wr).dr ?_
                clear hK
                try simp only [Act.put, List.setIfInBounds_toArray, List.set_cons_zero, List.set_cons_succ]
                iterate 1 (apply lext_take; exact rfl; exact rfl; (intro W hW; have q := W1.out; (try clear hW); go_simp; with_reducible rfl); try simp only [Act.put, List.setIfInBounds_toArray, List.set_cons_zero, List.set_cons_succ])
                apply lext_turn; exact rfl; exact rfl; exact rfl; intro K hK; go_simp; go_at_call 27; refine VA.out _ G3r.out.dr _ ?_
                intro w5 hg5
                have G5 := Lib.hid ((Grow.refl wr).dr.tr hg5)
                refine hK.out _ _ G5.out ?_
                clear hK hg5
                try simp only [Act.put, List.setIfInBounds_toArray, List.set_cons_zero, List.set_cons_succ]
                iterate 1 (apply lext_take; exact rfl; exact rfl; (intro W hW; have q := W2.out; (try clear hW); go_simp; with_reducible rfl); try simp only [Act.put, List.setIfInBounds_toArray, List.set_cons_zero, List.set_cons_succ])
                have TO5 := Lib.hid (own_grow TO.out G5.out)
                have G5c := Lib.hid (hgt.out.tr G5.out)
                clear EC KA VA TO
                apply lext_turn; exact rfl; exact rfl; exact rfl; intro K hK; go_simp; refine hK.out _ _ (G5.out.al _) ?_; clear hK; try simp only [Act.put, List.setIfInBounds_toArray, List.set_cons_zero, List.set_cons_succ]
                refine lext_nil ?_
                simp only [List.drop_succ_cons, List.drop_zero]
                go_wp2_with (at_builtin; refine wpList_put rfl _ _ rfl el_u32 TO5.out rfl 2 _ rfl _ rfl (by decide) rfl (by simp [Value.oneCell']) (by have := BL.out; omega) G5c.out.size ?_; intro v6 w6 hown6 hgr6 hb6; have TO6 : Hid (w6.ownsRow wc.heap.size 72 1 v6 (tagsP Ks Vs ((yB.take (m + 1)).map Atr.pl)).length (U32 (tagsP Ks Vs ((yB.take (m + 1)).map Atr.pl)))) := (by rw [TS.out]; exact own_eq hown6 (by simp) (by simp [U32])); have G6 := Lib.hid (grow_app G5c.out hgr6 (own_ge TO5.out)); clear hown6 hgr6 hb6 TO5)
                go_roundw
                case rel => exact ⟨m + 1, by omega, by go_num, TO6.out, G6.out⟩
                case measure => simp [intOf]; omega
              · obtain rfl : m = yB.length := by omega
                have tow := hto.out
                rw [List.take_length] at tow
                obtain ⟨T1, T2, hT12⟩ := own_slice tow
                subst hT12
                have TO := Lib.hid tow
                have YFr := Lib.hid (YF.out.gr hgt.out)
                have GYr := Lib.hid (GYc.out.tr hgt.out)
                have HBe : Hid ((tagsP Ks Vs (yB.map Atr.pl)).length = yB.length * 2) := by show _ = _; rw [tags_len, List.length_map]
                clear hto tow YF BXc KV3 VV3 MKJ AB
                go_upto_if 94 with fail
                clear x4
                go_cut [10] from 38 to 120 (fun v wx => Hid (∃ ys', ys'.map Fld.fd = (if yh then [(⟨1, 0, yi, []⟩ : FD)] else []) ++ (if yB.map Atr.pl = [] then [] else [⟨2, 2, 0, pack (tagsP Ks Vs (yB.map Atr.pl))⟩]) ∧ FS wa.heap.size v ys' wx) ∧ Hid (Grow wa wx))
                case first =>
                  clear PE AR EB TJ GP FTP PP FS1 D0 D1 D2 MK MV FO3
                  by_cases hB : yB.length = 0
                  · obtain rfl : yB = [] := List.eq_nil_of_length_eq_zero hB
                    go_wp2
                    go_meet
                    case rel => exact ⟨⟨ys, by rw [HYS.out]; simp, YFr.out⟩, GYr.out⟩
                  · have hB2 : 0 < (tagsP Ks Vs (yB.map Atr.pl)).length := by rw [HBe.out]; omega
                    have hB3 : (tagsP Ks Vs (yB.map Atr.pl)).length ≤ 600 := by rw [HBe.out]; omega
                    have PA := Lib.hid fun (R : Ending → World → Prop) hR => rpack_any (tagsP Ks Vs (yB.map Atr.pl)) _ _ wr (Rd.own TO.out) (by omega) (tags_bd (by omega) (by omega) _) (R := R) hR
                    have HBn : Hid (¬ yB.map Atr.pl = []) := by show ¬ _; intro h; have := congrArg List.length h; rw [List.length_map] at this; exact hB this
                    generalize tagsP Ks Vs (yB.map Atr.pl) = ts at *
                    go_wp2_with fail
                    go_at_call 28
                    refine PA.out _ ?_
                    intro pv w5 hO5 hg5
                    have D5 := Lib.hid (DatR.own hO5)
                    have G5 := Lib.hid hg5
                    obtain ⟨P1, P2, rfl⟩ := own_slice hO5
                    clear hO5 hg5 PA TO
                    generalize pack ts = pk at *
                    go_wp2_with fail
                    go_at_call 25
                    refine data_any 2 _ _ _ _ ?_
                    intro w6 hg6
                    have D6 := Lib.hid (D5.out.gr hg6)
                    have G6 := Lib.hid (G5.out.tr hg6)
                    have Y6 := Lib.hid (YFr.out.gr G6.out)
                    have LY6 : Hid (ys.length ≤ 1) := by show _ ≤ _; have := congrArg List.length HYS.out; rw [List.length_map] at this; rw [this]; split <;> simp
                    have GY6 := Lib.hid (GYr.out.tr G6.out)
                    obtain ⟨Y1, Y2, hY⟩ := own_slice YFr.out.own
                    subst hY
                    clear hg6 D5 YFr G5
                    go_wp2_with (at_builtin; refine wpList_put rfl _ _ rfl el_fld Y6.out.own rfl 1 _ rfl _ rfl (by decide) rfl (by simp [Value.oneCell']) (by have := LY6.out; omega) GY6.out.size ?_; intro v7 w7 hown7 hgr7 hb7; have Y7 := Lib.hid (Y6.out.app hgr7 (own_eq hown7 (by simp) (by simp [Fld.cells])) (bytes_fld (num := 2) (by decide) D6.out)); have GY7 := Lib.hid (grow_app GY6.out hgr7 (own_ge Y6.out.own)); clear hown7 hgr7 hb7 Y6 D6)
                    go_meet
                    case rel => exact ⟨⟨_, by rw [List.map_append, HYS.out, if_neg HBn.out]; rfl, Y7.out⟩, GY7.out⟩
                case rest =>
                  obtain ⟨hy2, hg2⟩ := hcut
                  obtain ⟨ys2, hyt, hyf2⟩ := hy2.out
                  have HYT := Lib.hid hyt
                  have YG := Lib.hid hyf2
                  have GY2 := Lib.hid hg2.out
                  have BX2 : Hid (BoxH w p9 #[.bool yh, .int .u64 yi, .int .i64 yt, .slice X1 X2 X3, .slice X4 yB.length X6] 41 wc) := BXa.out.tr hg2.out
                  have SY : Hid (ys2.length ≤ 2) := by show _ ≤ _; have := congrArg List.length HYT.out; rw [List.length_map, List.length_append] at this; rw [this]; split <;> split <;> simp
                  have FTY : Hid (ys2.map Fld.fd ++ [⟨3, 0, yt.toNat, []⟩, ⟨4, 2, 0, pack (encS yt (yA.map PRow.l))⟩] = FT) := by show _ = _; rw [HYT.out, FTP.out]
                  obtain ⟨Y1, Y2, hY⟩ := own_slice YG.out.own
                  subst hY
                  have GW2 := Lib.hid ((GW.out.tr GA.out).tr GY2.out)
                  clear hy2 hg2 hyt hyf2 HYT FTP HYS AR YFr GYr TO HBe BXa GRc GYc
                  go_upto_region 21 with fail
                  refine wp_region_lexT (fun W => Grow wc W) ((Grow.refl _).dr) 13 [0, 1, 2, 3, 4, 5, 6, 7, 8, 9, 10, 11, 12] (by kernel_rfl) (by kernel_rfl) (by intro c a d v w h; cases d <;> exact h) ?_
                  iterate 9 (apply lext_take; exact rfl; exact rfl; (intro W hW; have x2 := (BX2.out.tr hW).cell 2; have x3 := (BX2.out.tr hW).cell 3; have eu := EU.out; (try clear hW); go_simp; with_reducible rfl); try simp only [Act.put, List.setIfInBounds_toArray, List.set_cons_zero, List.set_cons_succ])
                  apply lext_turn; exact rfl; exact rfl; exact rfl; intro K hK; go_simp; go_at_call 29; refine PE.out _ GW2.out.dr _ ?_
                  intro ev w5 hO5 hg5
                  have D5 := Lib.hid (Rd.own hO5)
                  have G5 := Lib.hid ((Grow.refl wc).dr.tr hg5)
                  obtain ⟨P1, P2, rfl⟩ := own_slice hO5
                  clear hO5 hg5 PE BX2 GW2
                  refine hK.out _ _ G5.out ?_
                  clear hK
                  try simp only [Act.put, List.setIfInBounds_toArray, List.set_cons_zero, List.set_cons_succ]
                  apply lext_turn; exact rfl; exact rfl; exact rfl; intro K hK; go_simp; go_at_call 28; refine rpack_any (encS yt (yA.map PRow.l)) _ _ _ D5.out ZI2.out EB.out ?_
                  intro pv w6 hO6 hg6
                  have D6 := Lib.hid (DatR.own hO6)
                  have G6 := Lib.hid (G5.out.tr hg6)
                  obtain ⟨Q1, Q2, rfl⟩ := own_slice hO6
                  clear hO6 hg6 D5 G5 EB ZI2
                  refine hK.out _ _ G6.out ?_
                  clear hK
                  try simp only [Act.put, List.setIfInBounds_toArray, List.set_cons_zero, List.set_cons_succ]
                  generalize pack (encS yt (yA.map PRow.l)) = pk at *
                  apply lext_turn; exact rfl; exact rfl; exact rfl; intro K hK; go_simp; go_at_call 25; refine data_any 4 _ _ _ _ ?_
                  intro w7 hg7
                  have D7 := Lib.hid (D6.out.gr hg7)
                  have G7 := Lib.hid (G6.out.tr hg7)
                  clear hg7 D6 G6
                  refine hK.out _ _ G7.out ?_
                  clear hK
                  try simp only [Act.put, List.setIfInBounds_toArray, List.set_cons_zero, List.set_cons_succ]
                  apply lext_turn; exact rfl; exact rfl; exact rfl; intro K hK; go_simp; refine hK.out _ _ (G7.out.al _) ?_; clear hK; try simp only [Act.put, List.setIfInBounds_toArray, List.set_cons_zero, List.set_cons_succ]
                  refine lext_nil ?_
                  simp only [List.drop_succ_cons, List.drop_zero]
                  have Y7 := Lib.hid (YG.out.gr G7.out)
                  have GY7 := Lib.hid (GY2.out.tr G7.out)
                  clear YG GY2 G7
                  go_wp2_with (at_builtin; refine wpList_put rfl _ _ rfl el_fld Y7.out.own rfl 2 _ rfl _ rfl (by decide) rfl (by simp [Value.oneCell']) (by have := SY.out; omega) GY7.out.size ?_; intro v8 w8 hown8 hgr8 hb8; have Y8 := Lib.hid (Y7.out.app (gs := [⟨3, 0, yt.toNat, [], .slice none 0 0⟩, ⟨4, 2, 0, pk, .slice Q1 pk.length Q2⟩]) hgr8 (own_eq hown8 (by simp) (by simp [Fld.cells])) (fun f hf => by
                    rcases List.mem_cons.1 hf with rfl | hf
                    · exact ⟨by unfold I64; simp, by unfold I64; simp, by (have := ty1.1; have := ty1.2; show yt.toNat < _; omega), DatR.nil _⟩
                    · rw [List.mem_singleton.1 hf]; exact ⟨by unfold I64; simp, by unfold I64; simp, by simp, D7.out⟩)); have GY8 := Lib.hid (grow_app GY7.out hgr8 (own_ge Y7.out.own)); clear hown8 hgr8 hb8 Y7 D7)
                  have FS8 : (ys2 ++ ([⟨3, 0, yt.toNat, [], .slice none 0 0⟩, ⟨4, 2, 0, pk, .slice Q1 pk.length Q2⟩] : List Fld)).map Fld.fd = FT := by rw [List.map_append]; exact FTY.out
                  have EQ : Hid ((ys2 ++ ([⟨3, 0, yt.toNat, [], .slice none 0 0⟩, ⟨4, 2, 0, pk, .slice Q1 pk.length Q2⟩] : List Fld)).flatMap fput = FT.flatMap fdput) := by show _ = _; rw [fput_all, FS8]
                  have WP := Lib.hid fun (R : Ending → World → Prop) hR => rput_anyD 10000 (ys2 ++ ([⟨3, 0, yt.toNat, [], .slice none 0 0⟩, ⟨4, 2, 0, pk, .slice Q1 pk.length Q2⟩] : List Fld)) _ _ w8 Y8.out.flds (by have := SY.out; simp only [List.length_append, List.length_cons, List.length_nil]; omega) (fun f hf => by
                    have : f.fd ∈ FT := FS8 ▸ List.mem_map.2 ⟨f, hf, rfl⟩
                    exact (GP.out.1 _ this).2) (R := R) hR
                  rw [EQ.out] at WP
                  clear FS8 EQ GP FTY Y8
                  go_at_call 30
                  refine WP.out _ ?_
                  intro r w9 hO9 hg9
                  have D9 := Lib.hid (DatR.own hO9)
                  have GA9 := Lib.hid (GY8.out.tr hg9)
                  obtain ⟨R1, R2, rfl⟩ := own_slice hO9
                  clear hO9 hg9 WP GY8
                  generalize FT.flatMap fdput = fb9 at *
                  go_wp2_with fail
                  go_at_call 25
                  refine data_any 2 _ _ _ _ ?_
                  intro wd hgd
                  have D10 := Lib.hid (D9.out.gr hgd)
                  have GR10 := Lib.hid (GA.out.tr (GA9.out.tr hgd))
                  have P10 := Lib.hid (PP.out.gr GR10.out)
                  have G10 := Lib.hid (hgr.out.tr GR10.out)
                  obtain ⟨F1, F2, hF⟩ := own_slice PP.out.own
                  subst hF
                  have SZ : fb0 ≤ wd.heap.size := by have := B3.out; have := G10.out.size; omega
                  clear hgd D9 GA9 PP GR10
                  go_wp2_with (at_builtin; refine wpList_put rfl _ _ rfl el_fld P10.out.own rfl 1 _ rfl _ rfl (by decide) rfl (by simp [Value.oneCell']) (by omega) SZ ?_; intro ve we hown hgr9 hb9; have P11 := Lib.hid (P10.out.app hgr9 (own_eq hown (by simp) (by simp [Fld.cells])) (bytes_fld (num := 2) (by decide) D10.out)); have G11 := Lib.hid (grow_app G10.out hgr9 fun k hk => by have := own_ge P10.out.own k hk; have := B3.out; omega); clear hown hgr9 hb9 P10 D10 SZ)
                  go_roundw
                  case rel => exact ⟨j + 1, by omega, by go_num, ⟨_, (by rw [List.map_append, FS1.out, TJ.out, List.append_assoc]; rfl), P11.out⟩, G11.out⟩
                  case measure => simp [intOf]; omega
        · obtain rfl : j = xF.length := by omega
          obtain ⟨fs, hfs, hps⟩ := hP.out
          rw [List.take_length] at hfs
          obtain ⟨F1, F2, hF⟩ := own_slice hps.own
          subst hF
          have PP := Lib.hid hps
          have FS1 := Lib.hid hfs
          have LF := Lib.hid FW.out.1
          have FEL : Hid ((xF.map (fun f => (⟨2, 2, 0, (ftP Ks Vs f.pl).flatMap fdput⟩ : FD))).length = xF.length) := List.length_map _
          generalize xF.map (fun f => (⟨2, 2, 0, (ftP Ks Vs f.pl).flatMap fdput⟩ : FD)) = FE at *
          have GR := Lib.hid hgr.out
          clear hP hps hfs hgr RFE OF ZF FW MK MV D2 GW VPL
          go_wp2_with fail
          clear d2
          go_loopw [13, 7] (fun i fv wr => ∃ j : Nat, j ≤ Ks.length ∧ i = .int .i64 j ∧ Hid (∃ fs, fs.map Fld.fd = [⟨1, 2, 0, tx xn⟩] ++ FE ++ (Ks.take j).map (fun k => ⟨3, 2, 0, tx k⟩) ∧ FS fb0 fv fs wr) ∧ Hid (Grow w3 wr)) (fun i _ _ => Ks.length - (intOf i).toNat)
          case atStart => exact ⟨0, Nat.zero_le _, rfl, ⟨fs, by rw [FS1.out]; simp, PP.out⟩, GR.out⟩
          case round =>
            clear PP FS1 GR
            obtain ⟨j, hj, rfl, hP, hgr⟩ := hrel
            obtain ⟨fs, hfs, hps⟩ := hP.out
            obtain ⟨F1, F2, hF⟩ := own_slice hps.own
            subst hF
            have PP := Lib.hid hps
            have FS1 := Lib.hid hfs
            have GR := Lib.hid hgr.out
            clear hP hps hfs hgr
            by_cases hjl : j < Ks.length
            · obtain ⟨b3, o3, rfl, e3⟩ := rd_flat (g := fun s : ByteArray => [Value.string s]) (size := 1) (fun _ => rfl) (by decide) (strs_flat Ks ▸ KV3.out.gr2 (by decide) GR.out) hjl
              have c0 := e3 0 _ rfl
              have TJ : Hid ((Ks.take (j + 1)).map (fun k => (⟨3, 2, 0, tx k⟩ : FD)) = (Ks.take j).map (fun k => (⟨3, 2, 0, tx k⟩ : FD)) ++ [⟨3, 2, 0, tx Ks[j]⟩]) := by
                show _ = _
                rw [List.take_succ_eq_append_getElem hjl, List.map_append]
                rfl
              have SL : fs.length ≤ 90601 := by
                have h1 := congrArg List.length FS1.out
                have h2 := LF.out
                have h4 := FEL.out
                simp only [List.length_append, List.length_map, List.length_take, List.length_singleton] at h1
                omega
              have SY := KO.out Ks[j] (List.getElem_mem hjl)
              simp only [Nat.add_zero, Nat.mul_one] at c0
              clear e3
              generalize Ks[j] = y at *
              have hcv := conv_bytes
              go_wp2_with fail
              go_at_call 25
              refine data_any 3 _ _ _ _ ?_
              intro wd hgd
              have GR6 := Lib.hid ((grow_bytes wr 5 y).tr hgd)
              have D6 := Lib.hid ((dat_bytes wr y (by unfold maxLen; omega)).gr hgd)
              have P6 := Lib.hid (PP.out.gr GR6.out)
              have G6 := Lib.hid (GR.out.tr GR6.out)
              have SZ : fb0 ≤ wd.heap.size := by have := B3.out; have := G6.out.size; omega
              clear hgd PP c0 hcv GR GR6
              generalize grownCap wr y.size 0 5 = gc6 at *
              generalize wr.heap.size = wb6 at *
              go_wp2_with (at_builtin; refine wpList_put rfl _ _ rfl el_fld P6.out.own rfl 1 _ rfl _ rfl (by decide) rfl (by simp [Value.oneCell']) (by omega) SZ ?_; intro v7 w7 hown7 hgr7 hb7; have P7 := Lib.hid (P6.out.app hgr7 (own_eq hown7 (by simp) (by simp [Fld.cells])) (bytes_fld (num := 3) (by decide) D6.out)); have G7 := Lib.hid (grow_app G6.out hgr7 fun k hk => by have := own_ge P6.out.own k hk; have := B3.out; omega); clear hown7 hgr7 hb7 P6 D6 SZ)
              go_roundw
              case rel => exact ⟨j + 1, by omega, by go_num, ⟨_, (by rw [List.map_append, FS1.out, TJ.out, ← List.append_assoc]; rfl), P7.out⟩, G7.out⟩
              case measure => simp [intOf]; omega
            · obtain rfl : j = Ks.length := by omega
              rw [List.take_length] at FS1
              go_wp2_with fail
              go_loopw [14, 7] (fun i fv wr => ∃ j : Nat, j ≤ Vs.length ∧ i = .int .i64 j ∧ Hid (∃ fs, fs.map Fld.fd = [⟨1, 2, 0, tx xn⟩] ++ FE ++ Ks.map (fun k => ⟨3, 2, 0, tx k⟩) ++ (Vs.take j).map (fun v => ⟨4, 2, 0, putV v⟩) ∧ FS fb0 fv fs wr) ∧ Hid (Grow w3 wr)) (fun i _ _ => Vs.length - (intOf i).toNat)
              case atStart => exact ⟨0, Nat.zero_le _, rfl, ⟨fs, by rw [FS1.out]; simp, PP.out⟩, GR.out⟩
              case round =>
                clear PP FS1 GR
                obtain ⟨j, hj, rfl, hP, hgr⟩ := hrel
                obtain ⟨fs, hfs, hps⟩ := hP.out
                obtain ⟨F1, F2, hF⟩ := own_slice hps.own
                subst hF
                have PP := Lib.hid hps
                have FS1 := Lib.hid hfs
                have GR := Lib.hid hgr.out
                clear hP hps hfs hgr
                have SL : fs.length ≤ 180901 := by
                  have h1 := congrArg List.length FS1.out
                  have h2 := LF.out
                  have h4 := FEL.out
                  simp only [List.length_append, List.length_map, List.length_take, List.length_singleton] at h1
                  omega
                by_cases hjl : j < Vs.length
                · obtain ⟨b3, o3, rfl, e3⟩ := rd_flat Val.cells_len (by decide) (VV3.out.gr2 (by decide) GR.out) hjl
                  have TJ : Hid ((Vs.take (j + 1)).map (fun v => (⟨4, 2, 0, putV v⟩ : FD)) = (Vs.take j).map (fun v => (⟨4, 2, 0, putV v⟩ : FD)) ++ [⟨4, 2, 0, putV Vs[j]⟩]) := by
                    show _ = _
                    rw [List.take_succ_eq_append_getElem hjl, List.map_append]
                    rfl
                  obtain ⟨sy1, sy2, sy3⟩ := VO.out Vs[j] (List.getElem_mem hjl)
                  generalize Vs[j] = y at *
                  have c0 := e3 0 _ rfl
                  have c1 := e3 1 _ rfl
                  have c2 := e3 2 _ rfl
                  simp only [Nat.add_zero] at c0
                  have VP := Lib.hid fun W (hg : Grow w W) (R : Ending → World → Prop) hR => rvput_any y sy1 sy2 sy3 W (HT.out.gr hg) (R := R) hR
                  unfold Val.v at VP
                  have GW := Lib.hid (G13.out.tr GR.out)
                  clear e3
                  go_wp2_with fail
                  go_at_call 31
                  refine VP.out _ GW.out _ ?_
                  intro r w5 hO5 hg5
                  have P5 := Lib.hid (PP.out.gr hg5)
                  have G5 := Lib.hid (GR.out.tr hg5)
                  have D5 := Lib.hid (DatR.own hO5)
                  obtain ⟨R1, R2, rfl⟩ := own_slice hO5
                  clear hO5 hg5 PP VP c0 c1 c2 GR GW
                  go_wp2_with fail
                  go_at_call 25
                  refine data_any 4 _ _ _ _ ?_
                  intro wd hgd
                  have P6 := Lib.hid (P5.out.gr hgd)
                  have D6 := Lib.hid (D5.out.gr hgd)
                  have G6 := Lib.hid (G5.out.tr hgd)
                  have SZ : fb0 ≤ wd.heap.size := by have := B3.out; have := G6.out.size; omega
                  clear hgd P5 D5 G5
                  go_wp2_with (at_builtin; refine wpList_put rfl _ _ rfl el_fld P6.out.own rfl 1 _ rfl _ rfl (by decide) rfl (by simp [Value.oneCell']) (by omega) SZ ?_; intro v7 w7 hown7 hgr7 hb7; have P7 := Lib.hid (P6.out.app hgr7 (own_eq hown7 (by simp) (by simp [Fld.cells])) (bytes_fld (num := 4) (by decide) D6.out)); have G7 := Lib.hid (grow_app G6.out hgr7 fun k hk => by have := own_ge P6.out.own k hk; have := B3.out; omega); clear hown7 hgr7 hb7 P6 D6 SZ)
                  go_roundw
                  case rel => exact ⟨j + 1, by omega, by go_num, ⟨_, (by rw [List.map_append, FS1.out, TJ.out, ← List.append_assoc]; rfl), P7.out⟩, G7.out⟩
                  case measure => simp [intOf]; omega
                · obtain rfl : j = Vs.length := by omega
                  rw [List.take_length] at FS1
                  have GW := Lib.hid (G13.out.tr GR.out)
                  have d1 := D1.out wr GW.out
                  have ex := EX.out
                  have SZ : fb0 ≤ wr.heap.size := by have := B3.out; have := GR.out.size; omega
                  go_wp2_with (at_builtin; refine wpList_put rfl _ _ rfl el_fld PP.out.own rfl 2 _ rfl _ rfl (by decide) rfl (by simp [Value.oneCell']) (by omega) SZ ?_; intro v7 w7 hown7 hgr7 hb7; have P7 := Lib.hid (PP.out.app (gs := [⟨5, 0, xe.toNat, [], .slice none 0 0⟩, ⟨15, 0, 2, [], .slice none 0 0⟩]) hgr7 (own_eq hown7 (by simp) (by simp [Fld.cells])) (fun f hf => by
                    rcases List.mem_cons.1 hf with rfl | hf
                    · exact ⟨by unfold I64; simp, by unfold I64; simp, XE.out, DatR.nil _⟩
                    · rw [List.mem_singleton.1 hf]; exact ⟨by unfold I64; simp, by unfold I64; simp, by simp, DatR.nil _⟩)); have G7 := Lib.hid (grow_app GR.out hgr7 fun k hk => by have := own_ge PP.out.own k hk; have := B3.out; omega); clear hown7 hgr7 hb7 PP GR GW SZ d1)
                  have FS7 : (fs ++ ([⟨5, 0, xe.toNat, [], .slice none 0 0⟩, ⟨15, 0, 2, [], .slice none 0 0⟩] : List Fld)).map Fld.fd = LYP := by rw [List.map_append, FS1.out, LY.out]; rfl
                  have EQ : Hid ((fs ++ ([⟨5, 0, xe.toNat, [], .slice none 0 0⟩, ⟨15, 0, 2, [], .slice none 0 0⟩] : List Fld)).flatMap fput = LYP.flatMap fdput) := by show _ = _; rw [fput_all, FS7]
                  have WP := Lib.hid fun (R : Ending → World → Prop) hR => rput_anyD 50000 (fs ++ ([⟨5, 0, xe.toNat, [], .slice none 0 0⟩, ⟨15, 0, 2, [], .slice none 0 0⟩] : List Fld)) _ _ w7 P7.out.flds (by simp only [List.length_append, List.length_cons, List.length_nil]; omega) (fun f hf => by
                    have : f.fd ∈ LYP := FS7 ▸ List.mem_map.2 ⟨f, hf, rfl⟩
                    exact (LG.out.1 _ this).2) (R := R) hR
                  rw [EQ.out] at WP
                  clear FS7 EQ FS1 LY ex P7
                  go_at_call 30
                  refine WP.out _ ?_
                  intro r w8 hO8 hg8
                  have G8 := Lib.hid (G7.out.tr hg8)
                  have D8 := Lib.hid (DatR.own hO8)
                  obtain ⟨R1, R2, rfl⟩ := own_slice hO8
                  clear hO8 hg8 WP G7
                  go_wp2_with fail
                  go_at_call 25
                  refine data_any 3 _ _ _ _ ?_
                  intro w9 hg9
                  have G9 := Lib.hid (G8.out.tr hg9)
                  have D9 := Lib.hid (D8.out.gr hg9)
                  have O9 := Lib.hid (FO3.out.gr G9.out)
                  have GW := Lib.hid (G13.out.tr G9.out)
                  clear hg9 G8 D8 FO3
                  go_wp2_with (at_builtin; refine wpList_put rfl _ _ rfl el_fld O9.out.own rfl 1 _ rfl _ rfl (by decide) rfl (by simp [Value.oneCell']) (by omega) GW.out.size ?_; intro va wb9 hown7 hgr7 hb7; have FA := Lib.hid (O9.out.app hgr7 (own_eq hown7 (by simp) (by simp [Fld.cells])) (bytes_fld (num := 3) (by decide) D9.out)); have GA : Hid (Grow w wb9) := grow_app GW.out hgr7 (own_ge O9.out.own); clear hown7 hgr7 hb7 O9 D9)
                  go_roundw
                  case rel => exact ⟨k + 1, by omega, by go_num, ⟨_, (by rw [List.map_append, TK.out]; rfl), FA.out⟩, GA.out⟩
                  case measure => simp [intOf]; omega
    · obtain rfl : k = L.length := by omega
      obtain ⟨outs, he, hF⟩ := ho.out
      rw [List.take_length] at he
      have LN : outs.length ≤ 300 := by
        have := congrArg List.length he
        rw [List.length_map, List.length_map] at this
        omega
      have EQ : Hid (outs.flatMap fput = putT (L.map LyR.pl)) := by
        show _ = _
        rw [fput_all, he]
        unfold putT
        rw [List.map_map]
        rfl
      have DB : ∀ f ∈ outs, f.data.length ≤ 500000000 := by
        intro f hf
        have : f.fd ∈ outs.map Fld.fd := List.mem_map.2 ⟨f, hf, rfl⟩
        rw [he] at this
        obtain ⟨x, hx, e⟩ := List.mem_map.1 this
        have hd : f.data = (lyP x.pl).flatMap fdput := by
          have := congrArg FD.data e
          exact this.symm
        rw [hd]
        exact lyP_len2 (HZ.out x hx) (RT.out x.pl (List.mem_map.2 ⟨x, hx, rfl⟩)).2
      obtain ⟨O1, O2, hO⟩ := own_slice hF.own
      subst hO
      have WP := Lib.hid fun (R : Ending → World → Prop) hR => rput_anyD 500000000 outs _ _ wr hF.flds (by omega) DB (R := R) hR
      rw [EQ.out] at WP
      clear ho he hF LN EQ DB
      go_wp2_with fail
      go_at_call 30
      refine WP.out _ ?_
      intro r w9 hO9 hg9
      have FIN := Lib.hid (HR.out r w9 (own_base hO9 hg.out.size) (hg.out.tr hg9))
      clear hO9 hg9 WP HR
      go_wp2
      exact FIN.out
end Go.Proofs.YtjalimkajcjapaaDoor
