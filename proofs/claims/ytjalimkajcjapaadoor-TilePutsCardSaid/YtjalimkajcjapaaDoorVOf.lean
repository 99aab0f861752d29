/-
  Values of attributes: of (the value of a field).
-/
import Derived.Test.YtjalimkajcjapaaDoorChecked
import Derived.Test.YtjalimkajcjapaaDoorVPut
import Derived.Test.YtjalimkajcjapaaDoorWGet
namespace Go.Proofs.YtjalimkajcjapaaDoor
open Go.RowKit B

theorem str_u8 {w : World} {S : Nat → Prop} {v : Value} {l : List UInt8} (h : Rd w S 1 v l.length (U8 l)) : (convert 25 9 v).run Tryd.prog w = .ok (.string ⟨l.toArray⟩) w :=
  run_str _ _ 5 Tryd.underlying25 Tryd.underlying5 Tryd.underlying9 h

def zeroV : Val := ⟨0, ⟨#[]⟩, 0⟩
def bitsV (num : Int) (int : Nat) : Int := if num = 6 then IntKind.u64.wrap (zag int) else int
def valF (f : FD) : Val := ⟨f.num, ⟨f.data.toArray⟩, bitsV f.num f.int⟩
def ofS (f : FD) : Val × Int := if f.kind = kindV f.num ∧ rightV (valF f) = true then (plainV (valF f), 0) else (zeroV, 3)

theorem res_of {tmps : Array Value} {W : World} {b : Nat} {x y z e : Value} (h2 : tmps.getD 2 undef = .pointer (some ⟨b, 0, none⟩)) (h3 : tmps.getD 3 undef = e) (h : W.heap[b]? = some (.cells #[x, y, z] 44 (0, 0))) : (results Tryd.f67 tmps).run Tryd.prog W = .ok (.tuple #[.agg #[x, y, z], e]) W := by
  have h2' : tmps[2]?.getD undef = .pointer (some ⟨b, 0, none⟩) := by simpa using h2
  have h3' : tmps[3]?.getD undef = e := by simpa using h3
  have c0 := cell_of_row W b 0 #[x, y, z] _ (0, 0) h
  have c1 := cell_of_row W b 1 #[x, y, z] _ (0, 0) h
  have c2 := cell_of_row W b 2 #[x, y, z] _ (0, 0) h
  simp [results, Tryd.results67, go_sem, h2', h3', c0, c1, c2]
theorem res_get {tmps : Array Value} {W : World} {b : Nat} {x y z e : Value} (h2 : tmps.getD 2 undef = .pointer (some ⟨b, 0, none⟩)) (h3 : tmps.getD 3 undef = e) (h : W.heap[b]? = some (.cells #[x, y, z] 44 (0, 0))) : (results Tryd.f48 tmps).run Tryd.prog W = .ok (.tuple #[.agg #[x, y, z], e]) W := by
  have h2' : tmps[2]?.getD undef = .pointer (some ⟨b, 0, none⟩) := by simpa using h2
  have h3' : tmps[3]?.getD undef = e := by simpa using h3
  have c0 := cell_of_row W b 0 #[x, y, z] _ (0, 0) h
  have c1 := cell_of_row W b 1 #[x, y, z] _ (0, 0) h
  have c2 := cell_of_row W b 2 #[x, y, z] _ (0, 0) h
  simp [results, Tryd.results48, go_sem, h2', h3', c0, c1, c2]
set_option maxRecDepth 100000 in
set_option maxHeartbeats 8000000 in
theorem of_any (f : Fld) (S : Nat → Prop) (w : World) (hf : f.ok w S) (hT : Tabs w) {R : Ending → World → Prop} (hR : ∀ w', Grow w w' → R (.returned (.tuple #[(ofS f.fd).1.v, .int .i64 (ofS f.fd).2])) w') :
    Calls Tryd.prog 67 #[.agg #[.int .i64 f.num, .int .i64 f.kind, .int .u64 (f.int : Nat), f.dv]] w R := by
  have HR1 : ∀ x e, ofS f.fd = (x, e) → ∀ w', Grow w w' → R (.returned (.tuple #[x.v, .int .i64 e])) w' := by intro x e h w' hg; have := hR w' hg; rw [h] at this; exact this
  have HR := Lib.hid HR1
  clear hR HR1
  obtain ⟨hn, hk, hi, hd⟩ := hf
  have HN := Lib.hid hn
  have HT := Lib.hid hT
  have HD := Lib.hid (hd.lt (by decide))
  have HS : Hid (f.data.length ≤ 9223372036854775807) := by
    obtain ⟨_, A, c, _, h1, h2, _⟩ := hd
    unfold maxLen at h2
    exact Nat.le_trans h1 h2
  have VF : Hid (valF f.fd = ⟨f.num, ⟨f.data.toArray⟩, bitsV f.num f.int⟩) := rfl
  have OF : Hid (ofS f.fd = if f.kind = kindV f.num ∧ rightV (valF f.fd) = true then (plainV (valF f.fd), 0) else (zeroV, 3)) := rfl
  have ZG := Lib.hid fun W (R : Ending → World → Prop) hR => zag_any (f.int : Int) W (by unfold U64; omega) (R := R) hR
  have KI := Lib.hid fun W (R : Ending → World → Prop) hR => kind_any f.num W (R := R) hR
  have RI := Lib.hid fun W (h : Tabs W) (R : Ending → World → Prop) hR => right_any (valF f.fd) (by show (ByteArray.mk f.data.toArray).size ≤ _; have := HS.out; simpa [ByteArray.size] using this) W h (R := R) hR
  have PL := Lib.hid fun W (R : Ending → World → Prop) hR => plain_any (valF f.fd) W (R := R) hR
  obtain ⟨num, kind, int, data, dv⟩ := f
  dsimp only at *
  obtain ⟨xk, xt, xb, hx⟩ : ∃ xk xt xb, valF (Fld.fd ⟨num, kind, int, data, dv⟩) = ⟨xk, xt, xb⟩ := ⟨_, _, _, rfl⟩
  rw [hx] at VF OF RI PL
  have V1 : num = xk := by have := VF.out; injection this with h1 h2 h3; exact h1.symm
  have V2 : (⟨data.toArray⟩ : ByteArray) = xt := by have := VF.out; injection this with h1 h2 h3; exact h2.symm
  have V3 : Hid (bitsV num int = xb) := by have := VF.out; injection this with h1 h2 h3; exact h3.symm
  clear VF hx hn hk hi hT
  subst V1
  obtain ⟨q, hq⟩ : ∃ q, plainV ⟨num, xt, xb⟩ = q := ⟨_, rfl⟩
  rw [hq] at OF PL
  obtain ⟨r, hr⟩ : ∃ r, rightV ⟨num, xt, xb⟩ = r := ⟨_, rfl⟩
  rw [hr] at OF RI
  obtain ⟨kd, hkd⟩ : ∃ kd, kindV num = kd := ⟨_, rfl⟩
  rw [hkd] at OF KI
  clear hq hr hkd
  unfold Val.v at *
  dsimp only at *
  obtain ⟨W2, hW2⟩ : ∃ W2, W2 = (w.alloc (.cells #[.int .i64 num, .int .i64 kind, .int .u64 (int : Nat), dv] 51)).alloc (.cells #[.int .i64 0, .string ⟨#[]⟩, .int .u64 0] 44) := ⟨_, rfl⟩
  have G2 : Hid (Grow w W2) := by rw [hW2]; exact ((Grow.refl w).al _).al _
  have hc : (convert 25 9 dv).run Tryd.prog W2 = .ok (.string xt) W2 := by rw [← V2]; exact str_u8 (HD.out.gr2 (by decide) G2.out)
  have BF2 : Hid (BoxH w w.heap.size #[.int .i64 num, .int .i64 kind, .int .u64 (int : Nat), dv] 51 W2) := by rw [hW2]; exact (BoxH.laid _ _ (Grow.refl w)).tr ((Grow.refl _).al _)
  have BR2 : Hid (BoxH w (w.heap.size + 1) #[.int .i64 0, .string ⟨#[]⟩, .int .u64 0] 44 W2) := by
    have := BoxH.laid (w := w.alloc (.cells #[.int .i64 num, .int .i64 kind, .int .u64 (int : Nat), dv] 51)) #[.int .i64 0, .string ⟨#[]⟩, .int .u64 0] 44 ((Grow.refl w).al _)
    rw [World.size_alloc] at this
    rw [hW2]
    exact this
  have SZ2 : Hid (W2.heap.size = w.heap.size + 1 + 1) := by show _ = _; rw [hW2, World.size_alloc, World.size_alloc]
  have BF3 := Lib.hid (BF2.out.tr ((Grow.refl W2).al (.cells #[.int .i64 num, .string xt, .int .u64 (int : Nat)] 44)))
  have BR3 := Lib.hid (BR2.out.tr ((Grow.refl W2).al (.cells #[.int .i64 num, .string xt, .int .u64 (int : Nat)] 44)))
  have BV3 := Lib.hid (BoxH.laid #[.int .i64 num, .string xt, .int .u64 (int : Nat)] 44 G2.out)
  have c0 := BF2.out.cell 0
  have c1 := BF2.out.cell 1
  have c2 := BF2.out.cell 2
  have c3 := BF2.out.cell 3
  have HW2 := Lib.hid hW2
  obtain ⟨_, A, c, rfl, h1, h2, -, -⟩ := hd
  clear hW2 V2 h1 h2
  go_enter Tryd.func67, Tryd.ntmps67
  go_upto_region 1 with fail
  rw [← HW2.out]
  go_upto_region 2 with fail
  clear c0 c1 c2 c3 hc BF2 BR2 HD
  have N1 : Hid (w.heap.size < w.heap.size + 1 ∧ w.heap.size + 1 < W2.heap.size) := ⟨by omega, by have := SZ2.out; omega⟩
  generalize W2.alloc (.cells #[.int .i64 num, .string xt, .int .u64 (int : Nat)] 44) = w3 at *
  generalize w.heap.size + 1 = rb at *
  generalize W2.heap.size = vb at *
  have c0 := BF3.out.cell 0
  have c2 := BF3.out.cell 2
  by_cases h6 : num = 6
  · have t6 : (num == 6) = true := by rw [beq_iff_eq]; exact h6
    have hx : IntKind.u64.wrap (zag (int : Int)) = xb := by have := V3.out; unfold bitsV at this; rw [if_pos h6] at this; exact this
    have v2 := BV3.out.cell 2
    have g2 := BV3.out.free 2
    have BF4 := Lib.hid (BF3.out.other (j := 2) (v := .int .u64 xb) (cc := vb) (by have := N1.out; omega) BV3.out.2.1)
    have BR4 := Lib.hid (BR3.out.other (j := 2) (v := .int .u64 xb) (cc := vb) (by have := N1.out; omega) BV3.out.2.1)
    have BV4 := Lib.hid (BV3.out.set 2 (.int .u64 xb))
    clear h6
    go_upto_region 4 with (go_at_call 71; refine ZG.out _ _ ?_)
    clear c0 c2 v2 g2 t6 hx BF3 BR3 BV3
    go_wp2_with fail
    refine wp_region_lexT (fun W => BoxH w w.heap.size #[.int .i64 num, .int .i64 kind, .int .u64 (int : Nat), .slice A data.length c] 51 W ∧ BoxH w rb #[.int .i64 0, .string ⟨#[]⟩, .int .u64 0] 44 W ∧ BoxH w vb #[.int .i64 num, .string xt, .int .u64 xb] 44 W) (⟨BF4.out.tr (Grow.refl _).dr, BR4.out.tr (Grow.refl _).dr, BV4.out.tr (Grow.refl _).dr⟩) 5 [0, 1, 2, 3, 4] (by kernel_rfl) (by kernel_rfl) (by intro c a d v w h; cases d <;> exact h) ?_
    iterate 4 (apply lext_take; exact rfl; exact rfl; (intro W hW; have c0 := hW.1.cell 0; have c1 := hW.1.cell 1; (try clear hW); go_simp; with_reducible rfl); try simp only [Act.put, List.setIfInBounds_toArray, List.set_cons_zero, List.set_cons_succ])
    have BR5 := Lib.hid (BR4.out.tr (Grow.refl _).dr)
    have BV5 := Lib.hid (BV4.out.tr (Grow.refl _).dr)
    have GG := Lib.hid (show _ ∧ _ ∧ _ from ⟨BF4.out.tr (Grow.refl _).dr, BR5.out, BV5.out⟩)
    clear BF4 BR4 BV4
    generalize (w3.setCell ⟨vb, 2, none⟩ (.int .u64 xb)).drew = w5 at *
    apply lext_turn; exact rfl; exact rfl; exact rfl; intro K hK; go_simp; go_at_call 37; refine KI.out _ _ ?_; refine hK.out _ _ GG.out ?_; clear hK
    try simp only [Act.put, List.setIfInBounds_toArray, List.set_cons_zero, List.set_cons_succ]
    refine lext_nil ?_
    simp only [List.drop_succ_cons, List.drop_zero]
    have v0 := BV5.out.cell 0
    have v1 := BV5.out.cell 1
    have v2 := BV5.out.cell 2
    by_cases hk : kind = kd
    · have t1 : (kind != kd) = false := by rw [bne_eq_false_iff_eq]; exact hk
      go_wp2_with fail
      go_at_call 36
      refine RI.out _ (HT.out.gr BR5.out.grow) _ ?_
      intro w6 hg6
      have BR6 := Lib.hid (BR5.out.tr hg6)
      have BV6 := Lib.hid (BV5.out.tr hg6)
      have z0 := BV6.out.cell 0
      have z1 := BV6.out.cell 1
      have z2 := BV6.out.cell 2
      clear hg6
      cases r with
      | true =>
        have OFT := Lib.hid (OF.out.trans (if_pos ⟨hk, rfl⟩))
        clear hk
        go_wp2_with fail
        go_at_call 59
        refine PL.out _ _ ?_
        intro w7 hg7
        have BR7 := Lib.hid (BR6.out.tr hg7)
        clear hg7
        obtain ⟨qk, qt, qb⟩ := q
        dsimp only
        have y0 := BR7.out.cell 0
        have y1 := BR7.out.cell 1
        have y2 := BR7.out.cell 2
        have f0 := BR7.out.free 0
        have f1 := (BR7.out.set 0 (.int .i64 qk)).free 1
        have f2 := ((BR7.out.set 0 (.int .i64 qk)).set 1 (.string qt)).free 2
        have BR9 := Lib.hid (((BR7.out.set 0 (.int .i64 qk)).set 1 (.string qt)).set 2 (.int .u64 qb))
        go_wp2
        exact bodyPost_ret (res_of (b := rb) rfl rfl BR9.out.2.2) rfl (HR.out ⟨qk, qt, qb⟩ 0 OFT.out _ BR9.out.grow)
      | false =>
        have OFT := Lib.hid (OF.out.trans (if_neg (fun h => by cases h.2)))
        clear hk
        have y0 := BR6.out.cell 0
        have y1 := BR6.out.cell 1
        have y2 := BR6.out.cell 2
        have f0 := BR6.out.free 0
        have f1 := (BR6.out.set 0 (.int .i64 0)).free 1
        have f2 := ((BR6.out.set 0 (.int .i64 0)).set 1 (.string ⟨#[]⟩)).free 2
        have BR9 := Lib.hid (((BR6.out.set 0 (.int .i64 0)).set 1 (.string ⟨#[]⟩)).set 2 (.int .u64 0))
        go_wp2
        exact bodyPost_ret (res_of (b := rb) rfl rfl BR9.out.2.2) rfl (HR.out zeroV 3 OFT.out _ BR9.out.grow)
    · have t1 : (kind != kd) = true := by rw [bne_iff_ne]; exact hk
      have OFT := Lib.hid (OF.out.trans (if_neg (fun h => hk h.1)))
      clear hk
      have y0 := BR5.out.cell 0
      have y1 := BR5.out.cell 1
      have y2 := BR5.out.cell 2
      have f0 := BR5.out.free 0
      have f1 := (BR5.out.set 0 (.int .i64 0)).free 1
      have f2 := ((BR5.out.set 0 (.int .i64 0)).set 1 (.string ⟨#[]⟩)).free 2
      have BR9 := Lib.hid (((BR5.out.set 0 (.int .i64 0)).set 1 (.string ⟨#[]⟩)).set 2 (.int .u64 0))
      go_wp2
      exact bodyPost_ret (res_of (b := rb) rfl rfl BR9.out.2.2) rfl (HR.out zeroV 3 OFT.out _ BR9.out.grow)
  · have t6 : (num == 6) = false := by rw [beq_eq_false_iff_ne]; exact h6
    have hx : (int : Int) = xb := by have := V3.out; unfold bitsV at this; rw [if_neg h6] at this; exact this
    have BF4 := Lib.hid BF3.out
    have BR4 := Lib.hid BR3.out
    have BV4 : Hid (BoxH w vb #[.int .i64 num, .string xt, .int .u64 xb] 44 w3) := by rw [← hx]; exact BV3.out
    clear h6
    go_upto_region 4 with fail
    clear c0 c2 t6 hx BF3 BR3 BV3
    go_wp2_with fail
    refine wp_region_lexT (fun W => BoxH w w.heap.size #[.int .i64 num, .int .i64 kind, .int .u64 (int : Nat), .slice A data.length c] 51 W ∧ BoxH w rb #[.int .i64 0, .string ⟨#[]⟩, .int .u64 0] 44 W ∧ BoxH w vb #[.int .i64 num, .string xt, .int .u64 xb] 44 W) (⟨BF4.out.tr (Grow.refl _).dr, BR4.out.tr (Grow.refl _).dr, BV4.out.tr (Grow.refl _).dr⟩) 5 [0, 1, 2, 3, 4] (by kernel_rfl) (by kernel_rfl) (by intro c a d v w h; cases d <;> exact h) ?_
    iterate 4 (apply lext_take; exact rfl; exact rfl; (intro W hW; have c0 := hW.1.cell 0; have c1 := hW.1.cell 1; (try clear hW); go_simp; with_reducible rfl); try simp only [Act.put, List.setIfInBounds_toArray, List.set_cons_zero, List.set_cons_succ])
    have BR5 := Lib.hid (BR4.out.tr (Grow.refl _).dr)
    have BV5 := Lib.hid (BV4.out.tr (Grow.refl _).dr)
    have GG := Lib.hid (show _ ∧ _ ∧ _ from ⟨BF4.out.tr (Grow.refl _).dr, BR5.out, BV5.out⟩)
    clear BF4 BR4 BV4
    generalize (w3).drew = w5 at *
    apply lext_turn; exact rfl; exact rfl; exact rfl; intro K hK; go_simp; go_at_call 37; refine KI.out _ _ ?_; refine hK.out _ _ GG.out ?_; clear hK
    try simp only [Act.put, List.setIfInBounds_toArray, List.set_cons_zero, List.set_cons_succ]
    refine lext_nil ?_
    simp only [List.drop_succ_cons, List.drop_zero]
    have v0 := BV5.out.cell 0
    have v1 := BV5.out.cell 1
    have v2 := BV5.out.cell 2
    by_cases hk : kind = kd
    · have t1 : (kind != kd) = false := by rw [bne_eq_false_iff_eq]; exact hk
      go_wp2_with fail
      go_at_call 36
      refine RI.out _ (HT.out.gr BR5.out.grow) _ ?_
      intro w6 hg6
      have BR6 := Lib.hid (BR5.out.tr hg6)
      have BV6 := Lib.hid (BV5.out.tr hg6)
      have z0 := BV6.out.cell 0
      have z1 := BV6.out.cell 1
      have z2 := BV6.out.cell 2
      clear hg6
      cases r with
      | true =>
        have OFT := Lib.hid (OF.out.trans (if_pos ⟨hk, rfl⟩))
        clear hk
        go_wp2_with fail
        go_at_call 59
        refine PL.out _ _ ?_
        intro w7 hg7
        have BR7 := Lib.hid (BR6.out.tr hg7)
        clear hg7
        obtain ⟨qk, qt, qb⟩ := q
        dsimp only
        have y0 := BR7.out.cell 0
        have y1 := BR7.out.cell 1
        have y2 := BR7.out.cell 2
        have f0 := BR7.out.free 0
        have f1 := (BR7.out.set 0 (.int .i64 qk)).free 1
        have f2 := ((BR7.out.set 0 (.int .i64 qk)).set 1 (.string qt)).free 2
        have BR9 := Lib.hid (((BR7.out.set 0 (.int .i64 qk)).set 1 (.string qt)).set 2 (.int .u64 qb))
        go_wp2
        exact bodyPost_ret (res_of (b := rb) rfl rfl BR9.out.2.2) rfl (HR.out ⟨qk, qt, qb⟩ 0 OFT.out _ BR9.out.grow)
      | false =>
        have OFT := Lib.hid (OF.out.trans (if_neg (fun h => by cases h.2)))
        clear hk
        have y0 := BR6.out.cell 0
        have y1 := BR6.out.cell 1
        have y2 := BR6.out.cell 2
        have f0 := BR6.out.free 0
        have f1 := (BR6.out.set 0 (.int .i64 0)).free 1
        have f2 := ((BR6.out.set 0 (.int .i64 0)).set 1 (.string ⟨#[]⟩)).free 2
        have BR9 := Lib.hid (((BR6.out.set 0 (.int .i64 0)).set 1 (.string ⟨#[]⟩)).set 2 (.int .u64 0))
        go_wp2
        exact bodyPost_ret (res_of (b := rb) rfl rfl BR9.out.2.2) rfl (HR.out zeroV 3 OFT.out _ BR9.out.grow)
    · have t1 : (kind != kd) = true := by rw [bne_iff_ne]; exact hk
      have OFT := Lib.hid (OF.out.trans (if_neg (fun h => hk h.1)))
      clear hk
      have y0 := BR5.out.cell 0
      have y1 := BR5.out.cell 1
      have y2 := BR5.out.cell 2
      have f0 := BR5.out.free 0
      have f1 := (BR5.out.set 0 (.int .i64 0)).free 1
      have f2 := ((BR5.out.set 0 (.int .i64 0)).set 1 (.string ⟨#[]⟩)).free 2
      have BR9 := Lib.hid (((BR5.out.set 0 (.int .i64 0)).set 1 (.string ⟨#[]⟩)).set 2 (.int .u64 0))
      go_wp2
      exact bodyPost_ret (res_of (b := rb) rfl rfl BR9.out.2.2) rfl (HR.out zeroV 3 OFT.out _ BR9.out.grow)
end Go.Proofs.YtjalimkajcjapaaDoor
