/-
  Tiles got of bytes, as the reference makes it: Get.
-/
import Derived.Test.YtfdjdfobhkmlpaaDoorChecked
import Derived.Test.YtfdjdfobhkmlpaaDoorTRLayA
import Derived.Test.YtfdjdfobhkmlpaaDoorTRRight
namespace Go.Proofs.YtfdjdfobhkmlpaaDoor
open Go.RowKit B

set_option maxRecDepth 100000 in
set_option maxHeartbeats 6000000 in
theorem rtget_any (b : List UInt8) (bv : Value) (S : Nat → Prop) (w : World) (hb : Rd w S 1 bv b.length (U8 b)) (hB : TgB b) (hT : Tabs w) {R : Ending → World → Prop}
    (h0 : ∀ e, getT b = .error e → ∀ w', Grow w w' → R (.returned (.tuple #[.slice none 0 0, .int .i64 e])) w')
    (h1 : ∀ (L : List LyR) (lv : Value) w', getT b = .ok (L.map LyR.pl) → LysRd w' (fun b => w.heap.size ≤ b) lv L → (∀ x ∈ L, x.ok) → FewB L → Grow w w' → R (.returned (.tuple #[lv, .int .i64 0])) w') :
    Calls Tryd.prog 19 #[bv] w R := by
  have NO := Lib.hid h0
  have YS := Lib.hid h1
  have HBB := Lib.hid hB
  have HT := Lib.hid hT
  have GE := Lib.hid fun (R : Ending → World → Prop) hR => rget_any b bv _ w hb hB.len (R := R) hR
  obtain ⟨B1, B2, B3, hbv⟩ := hb.form
  subst hbv
  clear h0 h1 hB hb hT
  go_enter Tryd.func19, Tryd.ntmps19
  go_wp2_with fail
  go_at_call 45
  refine GE.out _ ?_
  intro r fs w1 hO hF hfs hg1
  have FL : Hid (Flds w1 (fun _ => True) r fs) := ⟨(Rd.own hO).into fun _ _ => trivial, fun f hf => ⟨(hF f hf).1, (hF f hf).2.1, (hF f hf).2.2.1, (hF f hf).2.2.2.into fun _ _ => trivial⟩⟩
  have HFS := Lib.hid hfs
  have G1 := Lib.hid hg1
  obtain ⟨F1, F2, rfl⟩ := own_slice hO
  clear hg1 hO hF hfs GE
  by_cases he : (get b).2 = 0
  · have t1 : ((get b).2 != 0) = false := by simp [he]
    have GF := Lib.hid (getT_fs HFS.out he)
    have CN : fs.length ≤ 1000000 := by have := HBB.out.cnt; rw [← HFS.out, List.length_map] at this; exact this
    clear he
    go_wp2_with fail
    go_loopw [7, 6] (fun i ov wr => ∃ k : Nat, k ≤ fs.length ∧ i = .int .i64 k ∧ Hid (∃ L, GS w1 ov L wr ∧ L.length ≤ k ∧ mapE lyE (numF ((fs.take k).map Fld.fd) 3) = .ok (L.map LyR.pl)) ∧ Hid (Grow w1 wr)) (fun i _ _ => fs.length - (intOf i).toNat)
    case atStart => exact ⟨0, Nat.zero_le _, rfl, ⟨[], GS.nil (Grow.refl w1), Nat.zero_le _, rfl⟩, Grow.refl _⟩
    case round =>
      obtain ⟨k, hk, rfl, hls, hgw⟩ := hrel
      obtain ⟨L, hl, hln, hv⟩ := hls.out
      clear hls
      by_cases hlt : k < fs.length
      · have FLr := FL.out.gr hgw.out
        obtain ⟨b1, o1, rfl, e1⟩ := rd_flat Fld.cells_len (by decide) FLr.1 hlt
        have NX := Lib.hid (FLr.2 fs[k] (List.getElem_mem hlt))
        have NB : Hid (fs[k].num = 3 → LyB fs[k].data) := fun h => HBB.out.dat fs[k].fd (by rw [← HFS.out]; exact List.mem_map.2 ⟨_, List.getElem_mem hlt, rfl⟩) h
        have MT := Lib.hid (mapE_takeF lyE hlt hv)
        have HL := Lib.hid hl
        have LN := Lib.hid hln
        clear hl hv hln FLr
        generalize fs[k] = x at *
        obtain ⟨xn, xk, xi, xd, xv⟩ := x
        obtain ⟨X1, X2, X3, hx1⟩ := Rd.form NX.out.2.2.2
        dsimp only at hx1
        subst hx1
        have d0 := e1 0 _ rfl
        have d1 := e1 1 _ rfl
        have d2 := e1 2 _ rfl
        have d3 := e1 3 _ rfl
        simp only [Nat.add_zero] at d0
        clear e1
        have RX : Hid (Rd wr (fun _ => True) 1 (.slice X1 X2 X3) xd.length (U8 xd)) := NX.out.2.2.2
        have HN : Hid (I64 xn ∧ I64 xk) := ⟨NX.out.1, NX.out.2.1⟩
        clear NX
        dsimp only at NB
        have GA : Hid (Grow wr wr) := Grow.refl wr
        by_cases h3 : xn = 3
        · subst h3
          have MU := Lib.hid (MT.out.2 rfl)
          have NC := Lib.hid (NB.out rfl)
          clear MT NB
          by_cases hk2 : xk = 2
          · subst hk2
            have LA : Hid (∀ R, (∀ e, getLy xd = .error e → ∀ nm ext A n c w', Grow wr w' → R (.returned (.tuple #[.agg #[.string nm, .int .i64 ext, .slice A n c], .int .i64 e])) w') →
                (∀ nm ext A n c F w', getLy xd = .ok (LyR.pl ⟨nm, ext, .slice A n c, F⟩) → LyR.rd ⟨nm, ext, .slice A n c, F⟩ w' (fun b => (wr).heap.size ≤ b) → LyR.ok ⟨nm, ext, .slice A n c, F⟩ → Grow wr w' → R (.returned (.tuple #[.agg #[.string nm, .int .i64 ext, .slice A n c], .int .i64 0])) w') →
                Calls Tryd.prog 46 #[.slice X1 X2 X3] wr R) := fun R h0 h1 =>
              rlayer_any xd _ _ wr RX.out NC.out (HT.out.gr (G1.out.tr HL.out.gr)) (fun e he nm ext A n c w' hg => h0 e he nm ext A n c w' hg)
                (fun x w' he hr hk hg => by
                  obtain ⟨A, n, c, e1⟩ := hr.fm
                  obtain ⟨nm, ext, fv, F⟩ := x
                  dsimp only at e1
                  subst e1
                  exact h1 nm ext A n c F w' he hr hk hg)
            go_wp2_with fail
            go_at_call 46
            refine LA.out _ ?_ ?_
            · intro e hge nm ext A n c w4 hg4
              have t2 : (e != 0) = true := by simp [getLy_err hge]
              have FIN := Lib.hid (NO.out e (GF.out.1 e (MU.out.1 e (by show lyE ⟨3, 2, xi, xd⟩ = _; unfold lyE; rw [if_neg (by simp)]; exact hge))))
              have G4 := Lib.hid ((G1.out.tr HL.out.gr).tr (hg4.al (.cells #[.string nm, .int .i64 ext, .slice A n c] 27)))
              clear LA hg4 NO YS MU GF HL HBB HFS RX hge FL
              go_wp2
              exact FIN.out _ G4.out
            · intro nm ext A n c F w4 hge hr hk' hg4
              have HX := Lib.hid ((GS.fresh HL.out hr (Nat.le_refl _)).gr ((Grow.refl w4).al (.cells #[.string nm, .int .i64 ext, .slice A n c] 27)))
              have HM2 := Lib.hid ((HL.out.to hg4).to ((Grow.refl w4).al (.cells #[.string nm, .int .i64 ext, .slice A n c] 27)))
              have BV := Lib.hid (BoxH.laid #[.string nm, .int .i64 ext, .slice A n c] 27 (Grow.refl w4))
              have HK := Lib.hid hk'
              have FW : Hid (∀ f ∈ F, f.B.length ≤ 1000000) := fun f hf => by
                have h := getLy_few NC.out hge f.pl (List.mem_map.2 ⟨f, hf, rfl⟩)
                have e : (FtR.pl f).2.2.2.2.length = f.B.length := List.length_map _
                omega
              have MU2 := Lib.hid (MU.out.2 _ (by show lyE ⟨3, 2, xi, xd⟩ = _; unfold lyE; rw [if_neg (by simp)]; exact hge))
              clear LA NO YS MU hge hr hk' NC hg4 HBB
              go_upto_region 14 with fail
              generalize w4.alloc (.cells #[.string nm, .int .i64 ext, .slice A n c] 27) = w5 at *
              generalize w4.heap.size = p22 at *
              go_wp2_with (first | (refine wpList_load_row rfl 27 _ rfl p22 rfl 27 _ (0, 0) _ BV.out.2.2 Tryd.underlying27 rfl (by kernel_rfl) ?_) | (at_builtin; refine wpList_put rfl _ _ rfl el_ly HM2.out.own rfl 1 _ rfl _ rfl (by decide) rfl (by simp [Value.oneCell']) (by have := LN.out; omega) HM2.out.gr.size ?_; intro v2 w2 hown2 hgr2 hb2; have HL2 := Lib.hid (HM2.out.app (x := ⟨nm, ext, .slice A n c, F⟩) hgr2 (own_eq hown2 (by simp) (by simp [Lys, LyR.cells])) (Nat.le_succ _) hb2 HX.out HK.out FW.out); have G5 := Lib.hid (HL2.out.gr); clear hown2 hgr2 hb2 HM2))
              go_roundw
              case rel => exact ⟨k + 1, by omega, by go_num, ⟨_, HL2.out, by rw [List.length_append, List.length_singleton]; have := LN.out; omega, by rw [MU2.out, List.map_append]; rfl⟩, G5.out⟩
              case measure => simp [intOf]; omega
          · have t2 : (xk != 2) = true := by simp [hk2]
            have FIN := Lib.hid (NO.out 3 (GF.out.1 3 (MU.out.1 3 (by show lyE ⟨3, xk, xi, xd⟩ = _; unfold lyE; exact if_pos hk2))))
            have G4 := Lib.hid (G1.out.tr HL.out.gr)
            clear NO YS MU GF HL HBB HFS RX NC FL
            go_wp2
            exact FIN.out _ G4.out
        · have MU := Lib.hid (MT.out.1 h3)
          clear MT
          have t1 : (xn != 3) = true := by simp [h3]
          have G5 := Lib.hid (hgw.out.tr GA.out)
          go_wp2
          go_roundw
          case rel => exact ⟨k + 1, by omega, by go_num, ⟨_, HL.out, by have := LN.out; omega, MU.out⟩, G5.out⟩
          case measure => simp [intOf]; omega
      · obtain rfl : k = fs.length := by omega
        rw [List.take_length] at hv
        have GF := Lib.hid (GF.out.2 _ hv)
        have HL := Lib.hid hl
        have RI := Lib.hid fun (R : Ending → World → Prop) hR => rrightT_any _ L _ wr HL.out.lys HL.out.ok (HT.out.gr (G1.out.tr HL.out.gr)) HL.out.few (R := R) hR
        obtain ⟨A, c, rfl⟩ := own_slice hl.own
        clear hl hv hk hlt
        go_wp2_with fail
        go_at_call 15
        refine RI.out _ ?_
        intro c1 w4 hc hg4
        have G4 := Lib.hid (HL.out.to hg4)
        cases c1 with
        | true =>
          have FIN := Lib.hid fun lv w' => YS.out L lv w' (GF.out.1 (hc.1 rfl))
          clear NO YS GF HL RI hc hg4 HBB
          go_wp2
          exact FIN.out _ _ (G4.out.lys.into fun b hb => Nat.le_trans G1.out.size hb) G4.out.ok G4.out.few (G1.out.tr G4.out.gr)
        | false =>
          have FIN := Lib.hid (NO.out 3 (GF.out.2 (by cases h : rightT (L.map LyR.pl) with | false => rfl | true => exact absurd (hc.2 h) (by simp))))
          clear NO YS GF HL RI hc hg4 HBB
          go_wp2
          exact FIN.out _ (G1.out.tr G4.out.gr)
  · have t1 : ((get b).2 != 0) = true := by simp [he]
    have FIN := Lib.hid (NO.out (get b).2 (by unfold getT; exact if_pos he))
    have G9 := Lib.hid G1.out
    clear NO YS HBB FL HFS he
    generalize (get b).2 = e at *
    go_wp2
    exact FIN.out _ G9.out
end Go.Proofs.YtfdjdfobhkmlpaaDoor
