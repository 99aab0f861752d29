/-
  Values of attributes: the reference's Get.
-/
import Derived.Test.YtfdjdfobhkmlpaaDoorChecked
import Derived.Test.YtfdjdfobhkmlpaaDoorVGet
import Derived.Test.YtfdjdfobhkmlpaaDoorRGet
import Derived.Deep.Cut
namespace Go.Proofs.YtfdjdfobhkmlpaaDoor
open Go.RowKit B

theorem kinds_at {W w0 : World} {b : Nat} (h : BoxH w0 b #[.int .i64 0, .int .i64 2, .int .i64 5, .int .i64 1, .int .i64 0, .int .i64 0, .int .i64 0, .int .i64 0] 3 W) (n : Nat) (hn : n < 8) :
    W.cell? ⟨b, n, none⟩ = some (.int .i64 (kindV n)) := by
  rw [h.cell]
  rcases (by omega : n = 0 ∨ n = 1 ∨ n = 2 ∨ n = 3 ∨ n = 4 ∨ n = 5 ∨ n = 6 ∨ n = 7) with rfl | rfl | rfl | rfl | rfl | rfl | rfl | rfl <;> rfl
theorem take_low (fs : List Fld) (k : Nat) (hk : k < fs.length) : ((fs.take (k + 1)).filter fun f => low7 f.fd) = ((fs.take k).filter fun f => low7 f.fd) ++ (if low7 fs[k].fd then [fs[k]] else []) := by
  rw [List.take_succ_eq_append_getElem hk]
  exact filter_snoc Fld.fd low7 _ _

theorem one_app {fs known : List Fld} {k : Nat} (hk : k < fs.length) (h : (known ++ [fs[k]]).length = 1) : ∃ h : k < fs.length, known ++ [fs[k]] = [fs[k]] := by
  have : known = [] := by
    rw [List.length_append, List.length_singleton] at h
    exact List.eq_nil_of_length_eq_zero (by omega)
  subst this
  exact ⟨hk, rfl⟩

set_option maxRecDepth 100000 in
set_option maxHeartbeats 8000000 in
theorem rvget_any (l : List UInt8) (v : Value) (S : Nat → Prop) (w : World) (hb : Rd w S 1 v l.length (U8 l)) (hl : l.length ≤ 100000) (hT : Tabs w) {R : Ending → World → Prop} (hR : ∀ w', Grow w w' → R (.returned (.tuple #[(getS l).1.v, .int .i64 (getS l).2])) w') :
    Calls Tryd.prog 80 #[v] w R := by
  have HR1 : ∀ x e, getS l = (x, e) → ∀ w', Grow w w' → R (.returned (.tuple #[x.v, .int .i64 e])) w' := by intro x e h w' hg; have := hR w' hg; rw [h] at this; exact this
  have HR := Lib.hid HR1
  clear hR HR1
  have hb := hb.lt (by decide)
  have HB := Lib.hid hb
  have HT := Lib.hid hT
  have HL := Lib.hid hl
  have BR := Lib.hid (BoxH.laid #[.int .i64 0, .string ⟨#[]⟩, .int .u64 0] 37 (Grow.refl w))
  obtain ⟨_, A, c, rfl, -, -, -, -⟩ := hb
  clear hT hl
  go_enter Tryd.func80, Tryd.ntmps80
  go_wp2_with fail
  go_at_call 45
  refine rget_any l _ _ _ (HB.out.gr (by decide) BR.out.grow) (Nat.le_trans HL.out (by decide)) ?_
  intro r fs w1 hO1 hI1 hfs hg1
  have BR1 := Lib.hid (BR.out.tr hg1)
  have EF := Lib.hid hfs
  have I1 : Hid (∀ f ∈ fs, f.ok w1 (· < w1.heap.size)) := fun f hf => ⟨(hI1 f hf).1, (hI1 f hf).2.1, (hI1 f hf).2.2.1, (hI1 f hf).2.2.2.lt (by decide)⟩
  have RO := Lib.hid (Rd.own_lt hO1)
  obtain ⟨Xr, cr, hr⟩ := own_slice hO1
  subst hr
  clear hO1 hI1 hfs hg1 BR HB
  obtain ⟨e, he⟩ : ∃ e, (get l).2 = e := ⟨_, rfl⟩
  rw [he]
  by_cases h0 : e = 0
  · have t0 : (e != 0) = false := by rw [bne_eq_false_iff_eq]; exact h0
    have GS : Hid (getS l = oneS ((get l).1.filter low7)) := by show _ = _; unfold getS; rw [if_neg (by omega)]
    rw [← EF.out] at GS
    have hgl : get l = (fs.map Fld.fd, 0) := by rw [EF.out, ← h0, ← he]
    obtain ⟨q1, -, q3⟩ := put_get (by have := HL.out; omega) hgl
    have GD : Hid (∀ f ∈ fs, f.fd.good) := fun f hf => q3 _ (List.mem_map_of_mem hf)
    have LF : Hid (fs.length ≤ 100000) := by
      show _ ≤ _
      have := (fdput_all _ q3).1
      rw [List.length_map] at this
      have := HL.out
      omega
    clear hgl q1 q3
    obtain ⟨_, A2, c2, hv2, h1, h2, h3, h4⟩ := RO.out
    injection hv2 with e1 e2 e3
    subst e1 e3
    unfold maxLen at h2
    clear h0 he h3
    go_wp2
    clear t0
    go_loopw [8, 6, 7] (fun i' a' n' wr => ∃ (k a : Nat), k ≤ fs.length ∧ i' = .int .i64 k ∧ a' = .int .i64 a ∧ n' = .int .i64 (((fs.take k).filter fun f => low7 f.fd).length : Nat) ∧ Hid (((fs.take k).filter fun f => low7 f.fd).length = 1 → ∃ h : a < fs.length, ((fs.take k).filter fun f => low7 f.fd) = [fs[a]]) ∧ wr = w1) (fun i' _ _ _ => fs.length - (intOf i').toNat)
    case atStart => exact ⟨0, 0, Nat.zero_le _, rfl, rfl, rfl, (by intro h; simp at h), rfl⟩
    case round =>
      obtain ⟨k, a, hk, rfl, rfl, rfl, hone, rfl⟩ := hrel
      by_cases hlt : k < fs.length
      · obtain ⟨b, o, rfl, hS, hc⟩ := h4 (by omega)
        have e1 := flat_cells Fld.cells_len (Grow.refl _) hS hc hlt
        have d0 := e1 0 _ rfl
        simp only [Nat.add_zero] at d0
        have FS := Lib.hid (take_low fs k hlt)
        have KL : Hid (((fs.take k).filter fun f => low7 f.fd).length ≤ 100000) := by
          show _ ≤ _
          have h1 := List.length_filter_le (fun f : Fld => low7 f.fd) (fs.take k)
          rw [List.length_take] at h1
          have := LF.out
          omega
        clear h4 hc e1
        by_cases hlow : (fs[k]).num ≤ 7
        · have t1 : decide ((fs[k]).num < 8) = true := decide_eq_true (by omega)
          have FS2 : Hid (((fs.take (k + 1)).filter fun f => low7 f.fd) = ((fs.take k).filter fun f => low7 f.fd) ++ [fs[k]]) := by
            have := FS.out
            rw [if_pos (by show decide ((fs[k]).num ≤ 7) = true; exact decide_eq_true hlow)] at this
            exact this
          clear hlow FS
          generalize ((fs.take k).filter fun f => low7 f.fd) = known at *
          have hkl := KL.out
          go_wp2
          go_roundw
          case rel => exact ⟨k + 1, k, by omega, by go_num, rfl, by rw [FS2.out, List.length_append, List.length_singleton]; go_num, by intro h; rw [FS2.out] at h ⊢; exact one_app hlt h, trivial⟩
          case measure => simp [intOf]; omega
        · have t1 : decide ((fs[k]).num < 8) = false := decide_eq_false (by omega)
          have FS2 : Hid (((fs.take (k + 1)).filter fun f => low7 f.fd) = ((fs.take k).filter fun f => low7 f.fd)) := by
            have := FS.out
            rw [if_neg (by show ¬ decide ((fs[k]).num ≤ 7) = true; rw [decide_eq_false hlow]; decide), List.append_nil] at this
            exact this
          clear hlow FS
          go_wp2
          go_roundw
          case rel => exact ⟨k + 1, a, by omega, by go_num, rfl, by rw [FS2.out], by rw [FS2.out]; exact hone, trivial⟩
          case measure => simp [intOf]; omega
      · obtain rfl : k = fs.length := by omega
        rw [List.take_length] at hone ⊢
        have GF : Hid (getS l = oneS ((fs.filter fun f => low7 f.fd).map Fld.fd)) := by
          show _ = _
          rw [GS.out, List.filter_map]; rfl
        have KL : Hid ((fs.filter fun f => low7 f.fd).length ≤ 100000) := by
          show _ ≤ _
          have h1 := List.length_filter_le (fun f : Fld => low7 f.fd) fs
          have := LF.out
          omega
        have KG : Hid (∀ f ∈ fs.filter fun f => low7 f.fd, 1 ≤ f.num ∧ f.num ≤ 7) := fun f hf => by
          obtain ⟨m1, m2⟩ := List.mem_filter.1 hf
          exact ⟨(GD.out f m1).num.1, of_decide_eq_true m2⟩
        generalize (fs.filter fun f => low7 f.fd) = known at *
        by_cases h1k : known.length = 1
        · have t1 : ((known.length : Int) != 1) = false := by rw [bne_eq_false_iff_eq]; omega
          obtain ⟨ha, hka⟩ := hone.out h1k
          have hfo := I1.out fs[a] (List.getElem_mem ha)
          have hfg := KG.out fs[a] (by rw [hka]; exact List.mem_singleton.2 rfl)
          obtain ⟨b, o, rfl, hS, hc⟩ := h4 (by omega)
          have e1 := flat_cells Fld.cells_len (Grow.refl _) hS hc ha
          have d0 := e1 0 _ rfl
          have d1 := e1 1 _ rfl
          have d2 := e1 2 _ rfl
          have d3 := e1 3 _ rfl
          simp only [Nat.add_zero] at d0
          rw [hka] at GF
          clear h4 hc e1 hone
          have OFI : Hid (∀ f : Fld, getS l = oneS ([f].map Fld.fd) → getS l = ofS f.fd) := fun f h => h
          generalize fs[a] = f at *
          have GO := Lib.hid (OFI.out f GF.out)
          clear OFI GF hka
          obtain ⟨hn, hk1, hi, hd⟩ := hfo
          have HN := Lib.hid hn
          have HD := Lib.hid hd
          have HS : Hid (f.data.length ≤ 9223372036854775807) := by
            obtain ⟨_, A, c, _, h1, h2, _⟩ := hd
            unfold maxLen at h2
            exact Nat.le_trans h1 h2
          have VF : Hid (valF f.fd = ⟨f.num, ⟨f.data.toArray⟩, bitsV f.num f.int⟩) := rfl
          have OF : Hid (getS l = if f.kind = kindV f.num ∧ rightV (valF f.fd) = true then (plainV (valF f.fd), 0) else (zeroV, 3)) := GO.out
          have ZG := Lib.hid fun W (R : Ending → World → Prop) hR => rzag_any (f.int : Int) W (by unfold U64; omega) (R := R) hR
          have RI := Lib.hid fun W (h : Tabs W) (R : Ending → World → Prop) hR => rright_any (valF f.fd) (by show (ByteArray.mk f.data.toArray).size ≤ _; have := HS.out; simpa [ByteArray.size] using this) W h (R := R) hR
          have PL := Lib.hid fun W (R : Ending → World → Prop) hR => rplain_any (valF f.fd) W (R := R) hR
          clear GO hn hk1 hi hd
          obtain ⟨num, kind, int, data, dv⟩ := f
          dsimp only at *
          obtain ⟨kn, rfl⟩ : ∃ kn : Nat, num = kn := ⟨num.toNat, by omega⟩
          obtain ⟨xk, xt, xb, hx⟩ : ∃ xk xt xb, valF (Fld.fd ⟨(kn : Int), kind, int, data, dv⟩) = ⟨xk, xt, xb⟩ := ⟨_, _, _, rfl⟩
          rw [hx] at VF OF RI PL
          have V1 : (kn : Int) = xk := by have := VF.out; injection this with h1 h2 h3; exact h1.symm
          have V2 : (⟨data.toArray⟩ : ByteArray) = xt := by have := VF.out; injection this with h1 h2 h3; exact h2.symm
          have V3 : Hid (bitsV kn int = xb) := by have := VF.out; injection this with h1 h2 h3; exact h3.symm
          clear VF hx
          subst V1
          obtain ⟨q, hq⟩ : ∃ q, plainV ⟨(kn : Int), xt, xb⟩ = q := ⟨_, rfl⟩
          rw [hq] at OF PL
          obtain ⟨r, hr⟩ : ∃ r, rightV ⟨(kn : Int), xt, xb⟩ = r := ⟨_, rfl⟩
          rw [hr] at OF RI
          clear hq hr
          unfold Val.v at *
          dsimp only at *
          obtain ⟨W2, hW2⟩ : ∃ W2, W2 = (wr.alloc (.cells #[.int .i64 kn, .int .i64 kind, .int .u64 (int : Nat), dv] 75)).alloc (.cells #[.int .i64 0, .int .i64 2, .int .i64 5, .int .i64 1, .int .i64 0, .int .i64 0, .int .i64 0, .int .i64 0] 3) := ⟨_, rfl⟩
          have G2 : Hid (Grow wr W2) := by rw [hW2]; exact ((Grow.refl wr).al _).al _
          have hc : (convert 39 9 dv).run Tryd.prog W2 = .ok (.string xt) W2 := by rw [← V2]; exact str_u8 (HD.out.gr2 (by decide) G2.out)
          have BF2 : Hid (BoxH wr wr.heap.size #[.int .i64 kn, .int .i64 kind, .int .u64 (int : Nat), dv] 75 W2) := by rw [hW2]; exact (BoxH.laid _ _ (Grow.refl wr)).tr ((Grow.refl _).al _)
          have BR2 : Hid (BoxH w w.heap.size #[.int .i64 0, .string ⟨#[]⟩, .int .u64 0] 37 W2) := BR1.out.tr G2.out
          have BK2 : Hid (BoxH wr (wr.heap.size + 1) #[.int .i64 0, .int .i64 2, .int .i64 5, .int .i64 1, .int .i64 0, .int .i64 0, .int .i64 0, .int .i64 0] 3 W2) := by
            have := BoxH.laid (w := wr.alloc (.cells #[.int .i64 kn, .int .i64 kind, .int .u64 (int : Nat), dv] 75)) #[.int .i64 0, .int .i64 2, .int .i64 5, .int .i64 1, .int .i64 0, .int .i64 0, .int .i64 0, .int .i64 0] 3 ((Grow.refl wr).al _)
            rw [World.size_alloc] at this
            rw [hW2]
            exact this
          have SZ2 : Hid (W2.heap.size = wr.heap.size + 1 + 1) := by show _ = _; rw [hW2, World.size_alloc, World.size_alloc]
          have BF3 := Lib.hid (BF2.out.tr ((Grow.refl W2).al (.cells #[.int .i64 kn, .string xt, .int .u64 (int : Nat)] 37)))
          have BR3 := Lib.hid (BR2.out.tr ((Grow.refl W2).al (.cells #[.int .i64 kn, .string xt, .int .u64 (int : Nat)] 37)))
          have BK3 := Lib.hid (BK2.out.tr ((Grow.refl W2).al (.cells #[.int .i64 kn, .string xt, .int .u64 (int : Nat)] 37)))
          have BV3 := Lib.hid (BoxH.laid #[.int .i64 kn, .string xt, .int .u64 (int : Nat)] 37 (BR1.out.grow.tr G2.out))
          have c0 := BF2.out.cell 0
          have c1 := BF2.out.cell 1
          have c2 := BF2.out.cell 2
          have c3 := BF2.out.cell 3
          have HW2 := Lib.hid hW2
          obtain ⟨_, A, c, rfl, _, _, -, -⟩ := HD.out
          clear hW2 V2
          go_upto_region 15 with fail
          rw [← HW2.out]
          go_upto_region 16 with fail
          clear c0 c1 c2 c3 hc BF2 BR2 BK2
          have N1 : Hid (w.heap.size < wr.heap.size ∧ W2.heap.size = wr.heap.size + 1 + 1 ∧ kn < 8) := ⟨BR1.out.lt, SZ2.out, by omega⟩
          generalize W2.alloc (.cells #[.int .i64 kn, .string xt, .int .u64 (int : Nat)] 37) = w3 at *
          generalize W2.heap.size = vb at *
          have c0 := BF3.out.cell 0
          have c2 := BF3.out.cell 2
          clear d0 d1 d2 d3 t1 hk hlt ha
          by_cases h6 : (kn : Int) = 6
          · have t6 : ((kn : Int) == 6) = true := by rw [beq_iff_eq]; exact h6
            have hx : IntKind.u64.wrap (zag (int : Int)) = xb := by have := V3.out; unfold bitsV at this; rw [if_pos h6] at this; exact this
            have v2 := BV3.out.cell 2
            have g2 := BV3.out.free 2
            have BF4 := Lib.hid (BF3.out.other (j := 2) (v := .int .u64 xb) (cc := vb) (by have := N1.out; omega) (by have := N1.out; omega))
            have BK4 := Lib.hid (BK3.out.other (j := 2) (v := .int .u64 xb) (cc := vb) (by have := N1.out; omega) (by have := N1.out; omega))
            have BR4 := Lib.hid (BR3.out.other (j := 2) (v := .int .u64 xb) (cc := vb) (by have := N1.out; omega) (by have := N1.out; omega))
            have BV4 := Lib.hid (BV3.out.set 2 (.int .u64 xb))
            clear h6
            go_upto_region 18 with (go_at_call 95; refine ZG.out _ _ ?_)
            clear c0 c2 v2 g2 t6 hx BF3 BR3 BV3 BK3
            go_wp2_with fail
            have hk8 := N1.out.2.2
            have hk8i : (kn : Int) < 8 := by omega
            refine wp_region_lexT (fun W => BoxH wr wr.heap.size #[.int .i64 kn, .int .i64 kind, .int .u64 (int : Nat), .slice A data.length c] 75 W ∧ BoxH wr (wr.heap.size + 1) #[.int .i64 0, .int .i64 2, .int .i64 5, .int .i64 1, .int .i64 0, .int .i64 0, .int .i64 0, .int .i64 0] 3 W) (⟨BF4.out.tr (Grow.refl _).dr, BK4.out.tr (Grow.refl _).dr⟩) 7 [0, 1, 2, 3, 4, 5, 6] (by kernel_rfl) (by kernel_rfl) (by intro c a d v w h; cases d <;> exact h) ?_
            iterate 7 (apply lext_take; exact rfl; exact rfl; (intro W hW; have c0 := hW.1.cell 0; have c1 := hW.1.cell 1; have kc := kinds_at hW.2 kn hk8; (try clear hW); go_simp; with_reducible rfl); try simp only [Act.put, List.setIfInBounds_toArray, List.set_cons_zero, List.set_cons_succ])
            refine lext_nil ?_
            simp only [List.drop_succ_cons, List.drop_zero]
            have BR5 := Lib.hid (BR4.out.tr (Grow.refl _).dr)
            have BV5 := Lib.hid (BV4.out.tr (Grow.refl _).dr)
            clear BF4 BR4 BV4 BK4 hk8 hk8i
            generalize (w3.setCell ⟨vb, 2, none⟩ (.int .u64 xb)).drew = w5 at *
            obtain ⟨kd, hkd⟩ : ∃ kd, kindV kn = kd := ⟨_, rfl⟩
            rw [hkd] at OF ⊢
            clear hkd
            have v0 := BV5.out.cell 0
            have v1 := BV5.out.cell 1
            have v2 := BV5.out.cell 2
            by_cases hk : kind = kd
            · have t1 : (kind != kd) = false := by rw [bne_eq_false_iff_eq]; exact hk
              go_wp2_with fail
              go_at_call 67
              refine RI.out _ (HT.out.gr BR5.out.grow) _ ?_
              intro w6 hg6
              have BR6 := Lib.hid (BR5.out.tr hg6)
              have BV6 := Lib.hid (BV5.out.tr hg6)
              have z0 := BV6.out.cell 0
              have z1 := BV6.out.cell 1
              have z2 := BV6.out.cell 2
              clear hg6
              cases r with
              | true =>
                have OFT := Lib.hid (OF.out.trans (if_pos ⟨hk, rfl⟩))
                clear hk
                go_wp2_with fail
                go_at_call 30
                refine PL.out _ _ ?_
                intro w7 hg7
                have BR7 := Lib.hid (BR6.out.tr hg7)
                clear hg7
                obtain ⟨qk, qt, qb⟩ := q
                dsimp only
                have y0 := BR7.out.cell 0
                have y1 := BR7.out.cell 1
                have y2 := BR7.out.cell 2
                have f0 := BR7.out.free 0
                have f1 := (BR7.out.set 0 (.int .i64 qk)).free 1
                have f2 := ((BR7.out.set 0 (.int .i64 qk)).set 1 (.string qt)).free 2
                have BR9 := Lib.hid (((BR7.out.set 0 (.int .i64 qk)).set 1 (.string qt)).set 2 (.int .u64 qb))
                go_wp2
                exact bodyPost_ret (res_rget (b := w.heap.size) rfl rfl BR9.out.2.2) rfl (HR.out ⟨qk, qt, qb⟩ 0 OFT.out _ BR9.out.grow)
              | false =>
                have OFT := Lib.hid (OF.out.trans (if_neg (fun h => by cases h.2)))
                clear hk
                have y0 := BR6.out.cell 0
                have y1 := BR6.out.cell 1
                have y2 := BR6.out.cell 2
                have f0 := BR6.out.free 0
                have f1 := (BR6.out.set 0 (.int .i64 0)).free 1
                have f2 := ((BR6.out.set 0 (.int .i64 0)).set 1 (.string ⟨#[]⟩)).free 2
                have BR9 := Lib.hid (((BR6.out.set 0 (.int .i64 0)).set 1 (.string ⟨#[]⟩)).set 2 (.int .u64 0))
                go_wp2
                exact bodyPost_ret (res_rget (b := w.heap.size) rfl rfl BR9.out.2.2) rfl (HR.out zeroV 3 OFT.out _ BR9.out.grow)
            · have t1 : (kind != kd) = true := by rw [bne_iff_ne]; exact hk
              have OFT := Lib.hid (OF.out.trans (if_neg (fun h => hk h.1)))
              clear hk
              have y0 := BR5.out.cell 0
              have y1 := BR5.out.cell 1
              have y2 := BR5.out.cell 2
              have f0 := BR5.out.free 0
              have f1 := (BR5.out.set 0 (.int .i64 0)).free 1
              have f2 := ((BR5.out.set 0 (.int .i64 0)).set 1 (.string ⟨#[]⟩)).free 2
              have BR9 := Lib.hid (((BR5.out.set 0 (.int .i64 0)).set 1 (.string ⟨#[]⟩)).set 2 (.int .u64 0))
              go_wp2
              exact bodyPost_ret (res_rget (b := w.heap.size) rfl rfl BR9.out.2.2) rfl (HR.out zeroV 3 OFT.out _ BR9.out.grow)
          · have t6 : ((kn : Int) == 6) = false := by rw [beq_eq_false_iff_ne]; exact h6
            have hx : (int : Int) = xb := by have := V3.out; unfold bitsV at this; rw [if_neg h6] at this; exact this
            have BF4 := Lib.hid BF3.out
            have BK4 := Lib.hid BK3.out
            have BR4 := Lib.hid BR3.out
            have BV4 : Hid (BoxH w vb #[.int .i64 kn, .string xt, .int .u64 xb] 37 w3) := by rw [← hx]; exact BV3.out
            clear h6
            go_upto_region 18 with fail
            clear c0 c2 t6 hx BF3 BR3 BV3 BK3
            go_wp2_with fail
            have hk8 := N1.out.2.2
            have hk8i : (kn : Int) < 8 := by omega
            refine wp_region_lexT (fun W => BoxH wr wr.heap.size #[.int .i64 kn, .int .i64 kind, .int .u64 (int : Nat), .slice A data.length c] 75 W ∧ BoxH wr (wr.heap.size + 1) #[.int .i64 0, .int .i64 2, .int .i64 5, .int .i64 1, .int .i64 0, .int .i64 0, .int .i64 0, .int .i64 0] 3 W) (⟨BF4.out.tr (Grow.refl _).dr, BK4.out.tr (Grow.refl _).dr⟩) 7 [0, 1, 2, 3, 4, 5, 6] (by kernel_rfl) (by kernel_rfl) (by intro c a d v w h; cases d <;> exact h) ?_
            iterate 7 (apply lext_take; exact rfl; exact rfl; (intro W hW; have c0 := hW.1.cell 0; have c1 := hW.1.cell 1; have kc := kinds_at hW.2 kn hk8; (try clear hW); go_simp; with_reducible rfl); try simp only [Act.put, List.setIfInBounds_toArray, List.set_cons_zero, List.set_cons_succ])
            refine lext_nil ?_
            simp only [List.drop_succ_cons, List.drop_zero]
            have BR5 := Lib.hid (BR4.out.tr (Grow.refl _).dr)
            have BV5 := Lib.hid (BV4.out.tr (Grow.refl _).dr)
            clear BF4 BR4 BV4 BK4 hk8 hk8i
            generalize (w3).drew = w5 at *
            obtain ⟨kd, hkd⟩ : ∃ kd, kindV kn = kd := ⟨_, rfl⟩
            rw [hkd] at OF ⊢
            clear hkd
            have v0 := BV5.out.cell 0
            have v1 := BV5.out.cell 1
            have v2 := BV5.out.cell 2
            by_cases hk : kind = kd
            · have t1 : (kind != kd) = false := by rw [bne_eq_false_iff_eq]; exact hk
              go_wp2_with fail
              go_at_call 67
              refine RI.out _ (HT.out.gr BR5.out.grow) _ ?_
              intro w6 hg6
              have BR6 := Lib.hid (BR5.out.tr hg6)
              have BV6 := Lib.hid (BV5.out.tr hg6)
              have z0 := BV6.out.cell 0
              have z1 := BV6.out.cell 1
              have z2 := BV6.out.cell 2
              clear hg6
              cases r with
              | true =>
                have OFT := Lib.hid (OF.out.trans (if_pos ⟨hk, rfl⟩))
                clear hk
                go_wp2_with fail
                go_at_call 30
                refine PL.out _ _ ?_
                intro w7 hg7
                have BR7 := Lib.hid (BR6.out.tr hg7)
                clear hg7
                obtain ⟨qk, qt, qb⟩ := q
                dsimp only
                have y0 := BR7.out.cell 0
                have y1 := BR7.out.cell 1
                have y2 := BR7.out.cell 2
                have f0 := BR7.out.free 0
                have f1 := (BR7.out.set 0 (.int .i64 qk)).free 1
                have f2 := ((BR7.out.set 0 (.int .i64 qk)).set 1 (.string qt)).free 2
                have BR9 := Lib.hid (((BR7.out.set 0 (.int .i64 qk)).set 1 (.string qt)).set 2 (.int .u64 qb))
                go_wp2
                exact bodyPost_ret (res_rget (b := w.heap.size) rfl rfl BR9.out.2.2) rfl (HR.out ⟨qk, qt, qb⟩ 0 OFT.out _ BR9.out.grow)
              | false =>
                have OFT := Lib.hid (OF.out.trans (if_neg (fun h => by cases h.2)))
                clear hk
                have y0 := BR6.out.cell 0
                have y1 := BR6.out.cell 1
                have y2 := BR6.out.cell 2
                have f0 := BR6.out.free 0
                have f1 := (BR6.out.set 0 (.int .i64 0)).free 1
                have f2 := ((BR6.out.set 0 (.int .i64 0)).set 1 (.string ⟨#[]⟩)).free 2
                have BR9 := Lib.hid (((BR6.out.set 0 (.int .i64 0)).set 1 (.string ⟨#[]⟩)).set 2 (.int .u64 0))
                go_wp2
                exact bodyPost_ret (res_rget (b := w.heap.size) rfl rfl BR9.out.2.2) rfl (HR.out zeroV 3 OFT.out _ BR9.out.grow)
            · have t1 : (kind != kd) = true := by rw [bne_iff_ne]; exact hk
              have OFT := Lib.hid (OF.out.trans (if_neg (fun h => hk h.1)))
              clear hk
              have y0 := BR5.out.cell 0
              have y1 := BR5.out.cell 1
              have y2 := BR5.out.cell 2
              have f0 := BR5.out.free 0
              have f1 := (BR5.out.set 0 (.int .i64 0)).free 1
              have f2 := ((BR5.out.set 0 (.int .i64 0)).set 1 (.string ⟨#[]⟩)).free 2
              have BR9 := Lib.hid (((BR5.out.set 0 (.int .i64 0)).set 1 (.string ⟨#[]⟩)).set 2 (.int .u64 0))
              go_wp2
              exact bodyPost_ret (res_rget (b := w.heap.size) rfl rfl BR9.out.2.2) rfl (HR.out zeroV 3 OFT.out _ BR9.out.grow)
        · have t1 : ((known.length : Int) != 1) = true := by rw [bne_iff_ne]; omega
          have GE : Hid (getS l = (zeroV, 3)) := by
            show _ = _
            rw [GF.out]
            cases known with
            | nil => rfl
            | cons f ks =>
              cases ks with
              | nil => exact absurd rfl h1k
              | cons g ks => rfl
          clear h1k h4
          have BR2 := Lib.hid BR1.out
          have y0 := BR2.out.cell 0
          have y1 := BR2.out.cell 1
          have y2 := BR2.out.cell 2
          have f0 := BR2.out.free 0
          have f1 := (BR2.out.set 0 (.int .i64 0)).free 1
          have f2 := ((BR2.out.set 0 (.int .i64 0)).set 1 (.string ⟨#[]⟩)).free 2
          have BR9 := Lib.hid (((BR2.out.set 0 (.int .i64 0)).set 1 (.string ⟨#[]⟩)).set 2 (.int .u64 0))
          go_wp2
          exact bodyPost_ret (res_rget (b := w.heap.size) rfl rfl BR9.out.2.2) rfl (HR.out zeroV 3 GE.out _ BR9.out.grow)
  · have t0 : (e != 0) = true := by rw [bne_iff_ne]; exact h0
    have GS : Hid (getS l = (zeroV, e)) := by show _ = _; unfold getS; rw [if_pos (by omega), he]
    clear h0 he
    have y0 := BR1.out.cell 0
    have y1 := BR1.out.cell 1
    have y2 := BR1.out.cell 2
    have f0 := BR1.out.free 0
    have f1 := (BR1.out.set 0 (.int .i64 0)).free 1
    have f2 := ((BR1.out.set 0 (.int .i64 0)).set 1 (.string ⟨#[]⟩)).free 2
    have BR9 := Lib.hid (((BR1.out.set 0 (.int .i64 0)).set 1 (.string ⟨#[]⟩)).set 2 (.int .u64 0))
    go_wp2
    exact bodyPost_ret (res_rget (b := w.heap.size) rfl rfl BR9.out.2.2) rfl (HR.out zeroV e GS.out _ BR9.out.grow)
end Go.Proofs.YtfdjdfobhkmlpaaDoor
