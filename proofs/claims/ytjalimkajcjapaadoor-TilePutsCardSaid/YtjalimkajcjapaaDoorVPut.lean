/-
  Values of attributes: Put.
-/
import Derived.Test.YtjalimkajcjapaaDoorChecked
import Derived.Test.YtjalimkajcjapaaDoorVRight
import Derived.Test.YtjalimkajcjapaaDoorCore
import Derived.Test.YtjalimkajcjapaaDoorWireA
import Derived.Lib.ConvBytes
import Derived.Deep.Cut
namespace Go.Proofs.YtjalimkajcjapaaDoor
open Go.RowKit B

theorem grow_bytes (w : World) (e : TypeId) (s : ByteArray) : Grow w (Lib.bytesWorld w e s) :=
  ⟨rfl, rfl, rfl, by rw [Lib.bytesWorld_size]; omega, fun j hj => Lib.bytesWorld_at_old w e s j hj⟩
def tx (s : ByteArray) : List UInt8 := s.data.toList
theorem tx_len (s : ByteArray) : (tx s).length = s.size := by unfold tx; simp

theorem by_set4 {w w' : World} (h : Grow w w') (b j : Nat) (v : Value) : w.grownBy (w'.setCell ⟨b, j, none⟩ v) (some b) :=
  ⟨h.os, h.tape, h.output, by rw [size_setCell]; exact h.size, fun k hk hne => by
    have e : b ≠ k := fun e => hne (by rw [e])
    have := h.block k hk
    simpa [World.setCell, Array.getElem?_modify, e] using this⟩
theorem rd_bytes (w : World) (e : TypeId) (s : ByteArray) (hs : s.size ≤ maxLen) : Rd (Lib.bytesWorld w e s) (fun b => b = w.heap.size) 1 (.slice (some ⟨w.heap.size, 0, none⟩) s.size (grownCap w s.size 0 e)) (tx s).length (U8 (tx s)) := by
  refine ⟨by rw [U8_len, Nat.mul_one], _, _, by rw [tx_len], by rw [tx_len]; exact grownCap_ge _ _ _ _, grownCap_le_maxLen _ _ _ _ hs, fun h => (by cases h), fun _ => ⟨w.heap.size, 0, rfl, rfl, fun j u hu => ?_⟩⟩
  have hj : j < (tx s).length := by have := (List.getElem?_eq_some_iff.1 hu).1; rwa [U8_len] at this
  rw [U8_at _ _ hj] at hu
  injection hu with hu
  rw [Nat.zero_add, Lib.bytesWorld_cell w e s j (by rwa [tx_len] at hj), ← hu]
  congr 3
  show (s.data.toList.getD j 0).toNat = _
  rw [List.getD_eq_getElem?_getD]
  unfold tx at hj ⊢
  rw [List.getElem?_eq_getElem hj]
  rfl
theorem w64 (b : Int) : wrap64 b = IntKind.i64.wrap b := by first | rfl | (rw [IntKind.wrap_i64]; rfl) | simp [wrap64, IntKind.wrap_i64]
theorem zig_nn (n : Int) : 0 ≤ zig n := by unfold zig; split <;> omega
theorem zig_lt64 (n : Int) (h : I64 n) : zig n < 18446744073709551616 := by unfold I64 at h; unfold zig; split <;> omega
/-- the field of a value -/
def intV (x : Val) : Int := if x.k = 1 then 0 else if x.k = 6 then zig (IntKind.i64.wrap x.b) else x.b
def fldV (x : Val) (dv : Value) : Fld := ⟨x.k, kindV x.k, (intV x).toNat, if x.k = 1 then tx x.t else [], dv⟩
def putV (x : Val) : List UInt8 := if rightV x then fput (fldV x (.slice none 0 0)) else []


set_option maxRecDepth 100000 in
set_option maxHeartbeats 4000000 in
theorem vput_any (x : Val) (hk : I64 x.k) (hb : U64 x.b) (hs : x.t.size ≤ 2000) (w : World) (hT : Tabs w) {R : Ending → World → Prop} (hR : ∀ v w', w'.ownsRow w.heap.size 5 1 v (putV x).length (U8 (putV x)) → Grow w w' → R (.returned v) w') :
    Calls Tryd.prog 17 #[x.v] w R := by
  have HR := Lib.hid hR
  have RI := Lib.hid fun W (h : Tabs W) (R : Ending → World → Prop) hR => right_any x (by omega) W h (R := R) hR
  have HT := Lib.hid (hT.gr ((Grow.refl w).al (.cells #[.int .i64 x.k, .string x.t, .int .u64 x.b] 44)))
  have BX := Lib.hid (BoxH.laid #[.int .i64 x.k, .string x.t, .int .u64 x.b] 44 (Grow.refl w))
  have HS := Lib.hid hs
  have HK := Lib.hid hk
  have HB := Lib.hid hb
  have KI := Lib.hid fun W (R : Ending → World → Prop) hR => kind_any x.k W (R := R) hR
  clear hR hT hs hk hb
  cases hr : rightV x with
  | false =>
    have PV : Hid (putV x = []) := by show _ = _; unfold putV; rw [hr]; rfl
    rw [hr] at RI
    clear hr
    generalize putV x = pv at *
    obtain ⟨k, t, b⟩ := x
    unfold Val.v at *
    dsimp only at *
    go_enter Tryd.func17, Tryd.ntmps17
    go_wp2_with fail
    go_at_call 36
    refine RI.out _ HT.out _ ?_
    intro w1 hg1
    have G1 := Lib.hid (BX.out.grow.tr hg1)
    clear hg1
    go_wp2
    refine HR.out _ _ ?_ G1.out
    rw [PV.out]
    exact World.ownsRow_nil _ _ _ _
  | true =>
    have PV : Hid (putV x = fput (fldV x (.slice none 0 0))) := by show _ = _; unfold putV; rw [hr]; rfl
    rw [hr] at RI
    clear hr
    generalize putV x = pv at *
    obtain ⟨k, t, b⟩ := x
    unfold fldV intV at PV
    unfold Val.v at *
    dsimp only at *
    generalize hkd : kindV k = kd at *
    have KB : Hid (I64 kd) := by show I64 _; rw [← hkd]; unfold kindV I64; split <;> (try split) <;> (try split) <;> omega
    have KD := Lib.hid hkd
    clear hkd
    go_enter Tryd.func17, Tryd.ntmps17
    go_wp2_with fail
    go_at_call 36
    refine RI.out _ HT.out _ ?_
    intro w1 hg1
    have B1 := Lib.hid (BX.out.tr hg1)
    clear hg1 BX RI HT
    go_wp2_with fail
    refine wp_region_free1 ⟨6, some 3, 51, #[.int .i64 0, .int .i64 0, .int .u64 0, .slice none 0 0]⟩ 7 [0, 1, 2, 3, 4, 5] (by kernel_rfl) (by kernel_rfl) ?_ (by intro c a d v w h; cases d <;> exact h) rfl ?_
    · exact ⟨_, rfl, rfl, rfl, fun a W K h => by go_simp; exact h⟩
    apply fr1_take; exact rfl; (simp); (intro x1; exact rfl)
    · intro x1 W' hW
      have z0 := (B1.out.tr ((Grow.refl _).dr.tr hW)).cell 0
      have z1 := (B1.out.tr ((Grow.refl _).dr.tr hW)).cell 1
      have z2 := (B1.out.tr ((Grow.refl _).dr.tr hW)).cell 2
      clear hW
      simp only [Act.put, List.setIfInBounds_toArray, List.set_cons_zero, List.set_cons_succ]
      go_simp
      with_reducible rfl
    simp only [Act.put, List.setIfInBounds_toArray, List.set_cons_zero, List.set_cons_succ]
    apply fr1_take; exact rfl; (simp); (intro x1; exact rfl)
    · intro x1 W' hW
      have z0 := (B1.out.tr ((Grow.refl _).dr.tr hW)).cell 0
      have z1 := (B1.out.tr ((Grow.refl _).dr.tr hW)).cell 1
      have z2 := (B1.out.tr ((Grow.refl _).dr.tr hW)).cell 2
      clear hW
      simp only [Act.put, List.setIfInBounds_toArray, List.set_cons_zero, List.set_cons_succ]
      go_simp
      with_reducible rfl
    simp only [Act.put, List.setIfInBounds_toArray, List.set_cons_zero, List.set_cons_succ]
    apply fr1_take; exact rfl; (simp); (intro x1; exact rfl)
    · intro x1 W' hW
      have z0 := (B1.out.tr ((Grow.refl _).dr.tr hW)).cell 0
      have z1 := (B1.out.tr ((Grow.refl _).dr.tr hW)).cell 1
      have z2 := (B1.out.tr ((Grow.refl _).dr.tr hW)).cell 2
      clear hW
      simp only [Act.put, List.setIfInBounds_toArray, List.set_cons_zero, List.set_cons_succ]
      go_simp
      with_reducible rfl
    simp only [Act.put, List.setIfInBounds_toArray, List.set_cons_zero, List.set_cons_succ]
    apply fr1_take; exact rfl; (simp); (intro x1; exact rfl)
    · intro x1 W' hW
      have z0 := (B1.out.tr ((Grow.refl _).dr.tr hW)).cell 0
      have z1 := (B1.out.tr ((Grow.refl _).dr.tr hW)).cell 1
      have z2 := (B1.out.tr ((Grow.refl _).dr.tr hW)).cell 2
      clear hW
      simp only [Act.put, List.setIfInBounds_toArray, List.set_cons_zero, List.set_cons_succ]
      go_simp
      with_reducible rfl
    simp only [Act.put, List.setIfInBounds_toArray, List.set_cons_zero, List.set_cons_succ]
    apply fr1_turn; exact rfl; exact rfl; (simp); (intro x1; exact rfl)
    intro x1 k1 hW K hK
    simp only [Act.put, List.setIfInBounds_toArray, List.set_cons_zero, List.set_cons_succ]
    go_simp
    go_at_call 37
    refine KI.out _ _ ?_
    have J1 := Lib.hid ((Grow.refl _).dr.tr hW)
    refine hK.out _ _ (Grow.refl _) ?_
    clear hK hW
    simp only [Act.put, List.setIfInBounds_toArray, List.set_cons_zero, List.set_cons_succ]
    apply fr1_take; exact rfl; (simp); (intro x1; exact rfl)
    · intro x1 W' hW
      clear hW
      simp only [Act.put, List.setIfInBounds_toArray, List.set_cons_zero, List.set_cons_succ]
      go_simp
      with_reducible rfl
    simp only [Act.put, List.setIfInBounds_toArray, List.set_cons_zero, List.set_cons_succ]
    refine fr1_nil ?_
    intro fb U hU hbf
    have BU := Lib.hid (B1.out.tr (J1.out.tr hU))
    have L1 : w.heap.size < w1.heap.size := B1.out.lt
    have BF : Hid (BoxH w fb #[.int .i64 0, .int .i64 0, .int .u64 0, .slice none 0 0] 51 U) := ⟨BU.out.grow, by have := hbf.2.1; omega, hbf.1⟩
    have n1 : fb ≠ w.heap.size := by have := hbf.2.1; omega
    have n2 : w.heap.size ≠ fb := by have := hbf.2.1; omega
    clear hU hbf L1 J1 B1 KI
    unfold ptrTo
    simp only [Act.put, List.setIfInBounds_toArray, List.set_cons_zero, List.set_cons_succ, List.drop_succ_cons, List.drop_zero]
    have c0 := BF.out.cell 0
    have c1 := BF.out.cell 1
    have c2 := BF.out.cell 2
    have c3 := BF.out.cell 3
    have f0 := BF.out.free 0
    have f1 := (BF.out.set 0 (.int .i64 k)).free 1
    have f2 := ((BF.out.set 0 (.int .i64 k)).set 1 (.int .i64 kd)).free 2
    have f3 := (((BF.out.set 0 (.int .i64 k)).set 1 (.int .i64 kd)).set 2 (.int .u64 0)).free 3
    have BF4 : Hid (BoxH w fb #[.int .i64 k, .int .i64 kd, .int .u64 0, .slice none 0 0] 51 ((((U.setCell ⟨fb, 0, none⟩ (.int .i64 k)).setCell ⟨fb, 1, none⟩ (.int .i64 kd)).setCell ⟨fb, 2, none⟩ (.int .u64 0)).setCell ⟨fb, 3, none⟩ (.slice none 0 0))) := (((BF.out.set 0 (.int .i64 k)).set 1 (.int .i64 kd)).set 2 (.int .u64 0)).set 3 (.slice none 0 0)
    have BX4 : Hid (BoxH w w.heap.size #[.int .i64 k, .string t, .int .u64 b] 44 ((((U.setCell ⟨fb, 0, none⟩ (.int .i64 k)).setCell ⟨fb, 1, none⟩ (.int .i64 kd)).setCell ⟨fb, 2, none⟩ (.int .u64 0)).setCell ⟨fb, 3, none⟩ (.slice none 0 0))) := (((BU.out.other n2 BF.out.2.1).other n2 BF.out.2.1).other n2 BF.out.2.1).other n2 BF.out.2.1
    go_upto_region 4 with fail
    clear c0 c1 c2 c3 f0 f1 f2 f3 BF BU
    generalize (((U.setCell ⟨fb, 0, none⟩ (.int .i64 k)).setCell ⟨fb, 1, none⟩ (.int .i64 kd)).setCell ⟨fb, 2, none⟩ (.int .u64 0)).setCell ⟨fb, 3, none⟩ (.slice none 0 0) = u4 at *
    have x0 := BX4.out.cell 0
    by_cases h1 : k = 1
    · subst h1
      have x1 := BX4.out.cell 1
      have hcv : ∀ W, (convert 9 25 (.string t)).run Tryd.prog W = .ok (.slice (some ⟨W.heap.size, 0, none⟩) t.size (grownCap W t.size 0 5)) (Lib.bytesWorld W 5 t) := fun W => Lib.run_convert_string_bytes W _ _ _ t Tryd.underlying9 Tryd.underlying25 Tryd.underlying5
      have BFV := Lib.hid (BF4.out.tr (grow_bytes u4 5 t))
      have BFW := Lib.hid (BFV.out.set 3 (.slice (some ⟨u4.heap.size, 0, none⟩) t.size (grownCap u4 t.size 0 5)))
      have d3 := BFV.out.cell 3
      have g3 := BFV.out.free 3
      have e0 := BFW.out.cell 0
      have e1 := BFW.out.cell 1
      have e2 := BFW.out.cell 2
      have e3 := BFW.out.cell 3
      have RT := Lib.hid (rd_bytes u4 5 t (by have := HS.out; unfold maxLen; omega))
      have RT2 : Hid (Rd ((Lib.bytesWorld u4 5 t).setCell ⟨fb, 3, none⟩ (.slice (some ⟨u4.heap.size, 0, none⟩) t.size (grownCap u4 t.size 0 5))) (fun b => b = u4.heap.size) 1 (.slice (some ⟨u4.heap.size, 0, none⟩) t.size (grownCap u4 t.size 0 5)) (tx t).length (U8 (tx t))) := RT.out.by_ (by decide) (by_set4 (Grow.refl _) fb 3 _) (fun b hb e => by injection e with e; have : fb < u4.heap.size := BF4.out.lt; omega)
      have HL : Hid ((tx t).length ≤ 2000) := by show _ ≤ _; rw [tx_len]; exact HS.out
      go_wp2_with fail
      clear d3 g3 e0 e1 e2 e3 x0 x1 hcv
      rw [show ((Lib.bytesWorld u4 5 t).heap.size : Nat) = ((Lib.bytesWorld u4 5 t).setCell ⟨fb, 3, none⟩ (.slice (some ⟨u4.heap.size, 0, none⟩) t.size (grownCap u4 t.size 0 5))).heap.size from (size_setCell _ _ _).symm]
      generalize (Lib.bytesWorld u4 5 t).setCell ⟨fb, 3, none⟩ (.slice (some ⟨u4.heap.size, 0, none⟩) t.size (grownCap u4 t.size 0 5)) = x6 at *
      go_at_call 18
      refine put_any [⟨1, kd, 0, (tx t), (.slice (some ⟨u4.heap.size, 0, none⟩) t.size (grownCap u4 t.size 0 5))⟩] _ (fun _ => True) _ ⟨(Rd.laid (w := x6) (size := 4) #[.int .i64 1, .int .i64 kd, .int .u64 ((0 : Nat) : Int), (.slice (some ⟨u4.heap.size, 0, none⟩) t.size (grownCap u4 t.size 0 5))] 51 (0, 0) 1 (by decide) rfl (Grow.refl _)).into (fun _ _ => trivial), fun f hf => by rw [List.mem_singleton.1 hf]; exact ⟨HK.out, KB.out, (by show (0 : Nat) < 18446744073709551616; decide), ((RT2.out.gr2 (by decide) ((Grow.refl _).al _)).into (fun _ _ => trivial))⟩⟩ (by simp) (fun f hf => by rw [List.mem_singleton.1 hf]; exact HL.out) ?_
      intro r w7 hO7 hg7
      have G7 := Lib.hid ((BFW.out.grow.al (.cells #[.int .i64 1, .int .i64 kd, .int .u64 ((0 : Nat) : Int), (.slice (some ⟨u4.heap.size, 0, none⟩) t.size (grownCap u4 t.size 0 5))] 51)).tr hg7)
      have O7 := Lib.hid (own_base hO7 (BFW.out.grow.al (.cells #[.int .i64 1, .int .i64 kd, .int .u64 ((0 : Nat) : Int), (.slice (some ⟨u4.heap.size, 0, none⟩) t.size (grownCap u4 t.size 0 5))] 51)).size)
      clear hO7 hg7
      go_wp2
      refine HR.out _ _ (own_eq O7.out ?_ ?_) G7.out
      · rw [PV.out]; simp [fput, fhead]
      · rw [PV.out]; simp [fput, fhead]
    · have t1 : (k == 1) = false := by rw [beq_eq_false_iff_ne]; exact h1
      have x2 := BX4.out.cell 2
      by_cases h6 : k = 6
      · have t6 : (k == 6) = true := by rw [beq_iff_eq]; exact h6
        obtain ⟨n, hn⟩ : ∃ n : Nat, zig (IntKind.i64.wrap b) = n := ⟨(zig (IntKind.i64.wrap b)).toNat, by have := zig_nn (IntKind.i64.wrap b); omega⟩
        have HN : Hid (n < 18446744073709551616) := by show _ < _; have := zig_lt64 (IntKind.i64.wrap b) (IntKind.wrap_i64 b ▸ ⟨by omega, by omega⟩); omega
        have ZG := Lib.hid fun W (R : Ending → World → Prop) hR => zig_any (IntKind.i64.wrap b) W (IntKind.wrap_i64 b ▸ ⟨by omega, by omega⟩) (R := R) hR
        rw [hn] at ZG
        rw [if_neg h1, if_pos h6, hn, if_neg h1, Int.toNat_natCast] at PV
        have g2 := BX4.out.free 2
        have BX5 := Lib.hid (BX4.out.set 2 (.int .u64 (n : Nat)))
        have BF5 := Lib.hid (BF4.out.other (j := 2) (v := .int .u64 (n : Nat)) n1 (Nat.le_refl _))
        have BF6 := Lib.hid (BF5.out.set 2 (.int .u64 (n : Nat)))
        have y2 := BX5.out.cell 2
        have d2 := BF5.out.cell 2
        have gf2 := BF5.out.free 2
        have e0 := BF6.out.cell 0
        have e1 := BF6.out.cell 1
        have e2 := BF6.out.cell 2
        have e3 := BF6.out.cell 3
        clear h1 h6 hn
        go_wp2_with fail
        go_at_call 38
        rw [w64 b]
        refine ZG.out _ _ ?_
        go_wp2_with fail
        clear y2 d2 gf2 e0 e1 e2 e3 x0 x2 g2 t1 t6
        rw [show (u4.heap.size : Nat) = ((u4.setCell ⟨w.heap.size, 2, none⟩ (.int .u64 (n : Nat))).setCell ⟨fb, 2, none⟩ (.int .u64 (n : Nat))).heap.size from (by rw [size_setCell, size_setCell])]
        generalize (u4.setCell ⟨w.heap.size, 2, none⟩ (.int .u64 (n : Nat))).setCell ⟨fb, 2, none⟩ (.int .u64 (n : Nat)) = x6 at *
        go_at_call 18
        refine put_any [⟨k, kd, n, [], (.slice none 0 0)⟩] _ (fun _ => True) _ ⟨(Rd.laid (w := x6) (size := 4) #[.int .i64 k, .int .i64 kd, .int .u64 ((n : Nat) : Int), (.slice none 0 0)] 51 (0, 0) 1 (by decide) rfl (Grow.refl _)).into (fun _ _ => trivial), fun f hf => by rw [List.mem_singleton.1 hf]; exact ⟨HK.out, KB.out, HN.out, Rd.nil⟩⟩ (by simp) (fun f hf => by rw [List.mem_singleton.1 hf]; exact (Nat.zero_le _)) ?_
        intro r w7 hO7 hg7
        have G7 := Lib.hid ((BF6.out.grow.al (.cells #[.int .i64 k, .int .i64 kd, .int .u64 ((n : Nat) : Int), (.slice none 0 0)] 51)).tr hg7)
        have O7 := Lib.hid (own_base hO7 (BF6.out.grow.al (.cells #[.int .i64 k, .int .i64 kd, .int .u64 ((n : Nat) : Int), (.slice none 0 0)] 51)).size)
        clear hO7 hg7
        go_wp2
        refine HR.out _ _ (own_eq O7.out ?_ ?_) G7.out
        · rw [PV.out]; simp [fput, fhead]
        · rw [PV.out]; simp [fput, fhead]
      · have t6 : (k == 6) = false := by rw [beq_eq_false_iff_ne]; exact h6
        obtain ⟨n, hn⟩ := Int.eq_ofNat_of_zero_le HB.out.1
        have HN : Hid (n < 18446744073709551616) := by show _ < _; have := HB.out.2; omega
        rw [if_neg h1, if_neg h6, hn, if_neg h1, Int.toNat_natCast] at PV
        rw [hn] at x2
        have BF6 := Lib.hid (BF4.out.set 2 (.int .u64 (n : Nat)))
        have d2 := BF4.out.cell 2
        have gf2 := BF4.out.free 2
        have e0 := BF6.out.cell 0
        have e1 := BF6.out.cell 1
        have e2 := BF6.out.cell 2
        have e3 := BF6.out.cell 3
        clear h1 h6 hn
        go_wp2_with fail
        clear d2 gf2 e0 e1 e2 e3 x0 x2 t1 t6
        rw [show (u4.heap.size : Nat) = (u4.setCell ⟨fb, 2, none⟩ (.int .u64 (n : Nat))).heap.size from (size_setCell _ _ _).symm]
        generalize u4.setCell ⟨fb, 2, none⟩ (.int .u64 (n : Nat)) = x6 at *
        go_at_call 18
        refine put_any [⟨k, kd, n, [], (.slice none 0 0)⟩] _ (fun _ => True) _ ⟨(Rd.laid (w := x6) (size := 4) #[.int .i64 k, .int .i64 kd, .int .u64 ((n : Nat) : Int), (.slice none 0 0)] 51 (0, 0) 1 (by decide) rfl (Grow.refl _)).into (fun _ _ => trivial), fun f hf => by rw [List.mem_singleton.1 hf]; exact ⟨HK.out, KB.out, HN.out, Rd.nil⟩⟩ (by simp) (fun f hf => by rw [List.mem_singleton.1 hf]; exact (Nat.zero_le _)) ?_
        intro r w7 hO7 hg7
        have G7 := Lib.hid ((BF6.out.grow.al (.cells #[.int .i64 k, .int .i64 kd, .int .u64 ((n : Nat) : Int), (.slice none 0 0)] 51)).tr hg7)
        have O7 := Lib.hid (own_base hO7 (BF6.out.grow.al (.cells #[.int .i64 k, .int .i64 kd, .int .u64 ((n : Nat) : Int), (.slice none 0 0)] 51)).size)
        clear hO7 hg7
        go_wp2
        refine HR.out _ _ (own_eq O7.out ?_ ?_) G7.out
        · rw [PV.out]; simp [fput, fhead]
        · rw [PV.out]; simp [fput, fhead]
end Go.Proofs.YtjalimkajcjapaaDoor
