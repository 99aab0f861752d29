/-
  Values of attributes: the reference's Put; the kinds' names.
-/
import Derived.Test.YtjalimkajcjapaaDoorChecked
import Derived.Test.YtjalimkajcjapaaDoorVPut
import Derived.Test.YtjalimkajcjapaaDoorWire5
import Derived.Deep.Cut
namespace Go.Proofs.YtjalimkajcjapaaDoor
open Go.RowKit B

def nameV (k : Int) : ByteArray := if k = 1 then ⟨#[83, 116, 114, 105, 110, 103]⟩ else if k = 7 then ⟨#[66, 111, 111, 108, 101, 97, 110]⟩ else ⟨#[78, 117, 109, 98, 101, 114]⟩

set_option maxRecDepth 100000 in
set_option maxHeartbeats 4000000 in
theorem rvput_any (x : Val) (hk : I64 x.k) (hb : U64 x.b) (hs : x.t.size ≤ 2000) (w : World) (hT : Tabs w) {R : Ending → World → Prop} (hR : ∀ v w', w'.ownsRow w.heap.size 5 1 v (putV x).length (U8 (putV x)) → Grow w w' → R (.returned v) w') :
    Calls Tryd.prog 31 #[x.v] w R := by
  have HR := Lib.hid hR
  have RI := Lib.hid fun W (h : Tabs W) (R : Ending → World → Prop) hR => rright_any x (by omega) W h (R := R) hR
  have HT := Lib.hid (hT.gr ((Grow.refl w).al (.cells #[.int .i64 x.k, .string x.t, .int .u64 x.b] 44)))
  have BX := Lib.hid (BoxH.laid #[.int .i64 x.k, .string x.t, .int .u64 x.b] 44 (Grow.refl w))
  have HS := Lib.hid hs
  have HK := Lib.hid hk
  have HB := Lib.hid hb
  clear hR hT hs hk hb
  cases hr : rightV x with
  | false =>
    have PV : Hid (putV x = []) := by show _ = _; unfold putV; rw [hr]; rfl
    rw [hr] at RI
    clear hr
    generalize putV x = pv at *
    obtain ⟨k, t, b⟩ := x
    unfold Val.v at *
    dsimp only at *
    have x0 := BX.out.cell 0
    have x1 := BX.out.cell 1
    have x2 := BX.out.cell 2
    go_enter Tryd.func31, Tryd.ntmps31
    go_wp2_with fail
    go_at_call 44
    refine RI.out _ HT.out _ ?_
    intro w1 hg1
    have G1 := Lib.hid (BX.out.grow.tr hg1)
    clear hg1 x0 x1 x2
    go_wp2
    refine HR.out _ _ ?_ G1.out
    rw [PV.out]
    exact World.ownsRow_nil _ _ _ _
  | true =>
    have PV : Hid (putV x = fput (fldV x (.slice none 0 0))) := by show _ = _; unfold putV; rw [hr]; rfl
    rw [hr] at RI
    clear hr
    generalize putV x = pv at *
    obtain ⟨k, t, b⟩ := x
    unfold fldV intV at PV
    unfold Val.v at *
    dsimp only at *
    have x0 := BX.out.cell 0
    have x1 := BX.out.cell 1
    have x2 := BX.out.cell 2
    go_enter Tryd.func31, Tryd.ntmps31
    go_wp2_with fail
    go_at_call 44
    refine RI.out _ HT.out _ ?_
    intro w1 hg1
    have B1 := Lib.hid (BX.out.tr hg1)
    clear hg1 BX RI HT x0 x1 x2
    have BF4 := Lib.hid (BoxH.laid #[.int .i64 k, .int .i64 0, .int .u64 b, .slice none 0 0] 51 B1.out.grow)
    have BX4 := Lib.hid (B1.out.tr ((Grow.refl _).al (.cells #[.int .i64 k, .int .i64 0, .int .u64 b, .slice none 0 0] 51)))
    have L1 : Hid (w.heap.size < w1.heap.size) := B1.out.lt
    have x0 := B1.out.cell 0
    have x2 := B1.out.cell 2
    have z0 := BX4.out.cell 0
    go_upto_region 5 with fail
    clear x0 x2 z0 B1
    have n1 : w1.heap.size ≠ w.heap.size := by have := L1.out; omega
    have n2 : w.heap.size ≠ w1.heap.size := by have := L1.out; omega
    clear L1
    generalize w1.alloc (.cells #[.int .i64 k, .int .i64 0, .int .u64 b, .slice none 0 0] 51) = u4 at *
    generalize w1.heap.size = fb at *
    by_cases h1 : k = 1
    · subst h1
      have x1 := BX4.out.cell 1
      have TL : Hid ((tx t).length ≤ 2000) := by show _ ≤ _; rw [tx_len]; exact HS.out
      have hcv : ∀ W, (convert 9 25 (.string t)).run Tryd.prog W = .ok (.slice (some ⟨W.heap.size, 0, none⟩) t.size (grownCap W t.size 0 5)) (Lib.bytesWorld W 5 t) := fun W => Lib.run_convert_string_bytes W _ _ _ t Tryd.underlying9 Tryd.underlying25 Tryd.underlying5
      obtain ⟨n, hn⟩ := Int.eq_ofNat_of_zero_le HB.out.1
      have HN : Hid (n < 18446744073709551616) := by show _ < _; have := HB.out.2; omega
      rw [hn] at BF4
      clear hn
      go_upto_region 6 with fail
      clear x1
      have BXd := Lib.hid (BX4.out.tr (Grow.refl _).dr)
      have BFd := Lib.hid (BF4.out.tr (Grow.refl _).dr)
      have BXa := Lib.hid ((BX4.out.other (j := 1) (v := .int .i64 2) n2 BF4.out.2.1).tr (Grow.refl _).dr)
      have BFa := Lib.hid ((BF4.out.set 1 (.int .i64 2)).tr (Grow.refl _).dr)
      have BFA := Lib.hid (BFa.out.tr (grow_bytes (u4.setCell ⟨fb, 1, none⟩ (.int .i64 2)).drew 5 t))
      have BFb := Lib.hid (BFd.out.tr (grow_bytes u4.drew 5 t))
      have BFB := Lib.hid (BFb.out.set 1 (.int .i64 2))
      have x1 := BXd.out.cell 1
      have y1 := BXa.out.cell 1
      have d1 := BFd.out.cell 1
      have g1 := BFd.out.free 1
      have b1 := BFb.out.cell 1
      have h1 := BFb.out.free 1
      have A3 := BFA.out.cell 3
      have g3 := BFA.out.free 3
      have B3 := BFB.out.cell 3
      have h3 := BFB.out.free 3
      have RT := Lib.hid (rd_bytes u4.drew 5 t (by have := HS.out; unfold maxLen; omega))
      have RS0 := rd_bytes (u4.setCell ⟨fb, 1, none⟩ (.int .i64 2)).drew 5 t (by have := HS.out; unfold maxLen; omega)
      rw [show (u4.setCell ⟨fb, 1, none⟩ (.int .i64 2)).drew.heap.size = u4.heap.size from size_setCell _ _ _] at RS0
      have RS := Lib.hid RS0
      clear RS0
      have LF : Hid (fb < u4.heap.size) := BF4.out.lt
      have BFV := Lib.hid (BFB.out.set 3 (.slice (some ⟨u4.heap.size, 0, none⟩) t.size (grownCap u4.drew t.size 0 5)))
      have BFW := Lib.hid (BFA.out.set 3 (.slice (some ⟨u4.heap.size, 0, none⟩) t.size (grownCap (u4.setCell ⟨fb, 1, none⟩ (.int .i64 2)).drew t.size 0 5)))
      have RT2 : Hid (Rd (((Lib.bytesWorld u4.drew 5 t).setCell ⟨fb, 1, none⟩ (.int .i64 2)).setCell ⟨fb, 3, none⟩ (.slice (some ⟨u4.heap.size, 0, none⟩) t.size (grownCap u4.drew t.size 0 5))) (fun b => b = u4.heap.size) 1 (.slice (some ⟨u4.heap.size, 0, none⟩) t.size (grownCap u4.drew t.size 0 5)) (tx t).length (U8 (tx t))) :=
        (RT.out.by_ (by decide) (by_set4 (Grow.refl _) fb 1 _) (fun b hb e => by injection e with e; have : b = u4.heap.size := hb; have := LF.out; omega)).by_ (by decide) (by_set4 (Grow.refl _) fb 3 _) (fun b hb e => by injection e with e; have : b = u4.heap.size := hb; have := LF.out; omega)
      have RS2 : Hid (Rd ((Lib.bytesWorld (u4.setCell ⟨fb, 1, none⟩ (.int .i64 2)).drew 5 t).setCell ⟨fb, 3, none⟩ (.slice (some ⟨u4.heap.size, 0, none⟩) t.size (grownCap (u4.setCell ⟨fb, 1, none⟩ (.int .i64 2)).drew t.size 0 5))) (fun b => b = u4.heap.size) 1 (.slice (some ⟨u4.heap.size, 0, none⟩) t.size (grownCap (u4.setCell ⟨fb, 1, none⟩ (.int .i64 2)).drew t.size 0 5)) (tx t).length (U8 (tx t))) :=
        RS.out.by_ (by decide) (by_set4 (Grow.refl _) fb 3 _) (fun b hb e => by injection e with e; have : b = u4.heap.size := hb; have := LF.out; omega)
      have v0 := BFV.out.cell 0
      have v1 := BFV.out.cell 1
      have v2 := BFV.out.cell 2
      have v3 := BFV.out.cell 3
      have e0 := BFW.out.cell 0
      have e1 := BFW.out.cell 1
      have e2 := BFW.out.cell 2
      have e3 := BFW.out.cell 3
      have PVK : Hid (pv = fput ⟨1, 2, 0, tx t, .slice none 0 0⟩) := PV.out
      clear PV
      go_region
      · go_wp2_with fail
        clear v0 v1 v2 v3 e0 e1 e2 e3 x1 y1 d1 g1 b1 h1 A3 g3 B3 h3 hcv
        rw [show ((Lib.bytesWorld u4.drew 5 t).heap.size : Nat) = (((Lib.bytesWorld u4.drew 5 t).setCell ⟨fb, 1, none⟩ (.int .i64 2)).setCell ⟨fb, 3, none⟩ (.slice (some ⟨u4.heap.size, 0, none⟩) t.size (grownCap u4.drew t.size 0 5))).heap.size from (by rw [size_setCell, size_setCell])]
        generalize ((Lib.bytesWorld u4.drew 5 t).setCell ⟨fb, 1, none⟩ (.int .i64 2)).setCell ⟨fb, 3, none⟩ (.slice (some ⟨u4.heap.size, 0, none⟩) t.size (grownCap u4.drew t.size 0 5)) = x6 at *
        go_at_call 30
        refine rput_any [⟨1, 2, n, (tx t), (.slice (some ⟨u4.heap.size, 0, none⟩) t.size (grownCap u4.drew t.size 0 5))⟩] _ (fun _ => True) _ ⟨(Rd.laid (w := x6) (size := 4) #[.int .i64 1, .int .i64 2, .int .u64 ((n : Nat) : Int), (.slice (some ⟨u4.heap.size, 0, none⟩) t.size (grownCap u4.drew t.size 0 5))] 51 (0, 0) 1 (by decide) rfl (Grow.refl _)).into (fun _ _ => trivial), fun f hf => by rw [List.mem_singleton.1 hf]; exact ⟨HK.out, (by unfold I64; dsimp only; decide), HN.out, ((RT2.out.gr2 (by decide) ((Grow.refl _).al _)).into (fun _ _ => trivial))⟩⟩ (by simp) (fun f hf => by rw [List.mem_singleton.1 hf]; exact TL.out) ?_
        intro r w7 hO7 hg7
        have G7 := Lib.hid ((BFV.out.grow.al (.cells #[.int .i64 1, .int .i64 2, .int .u64 ((n : Nat) : Int), (.slice (some ⟨u4.heap.size, 0, none⟩) t.size (grownCap u4.drew t.size 0 5))] 51)).tr hg7)
        have O7 := Lib.hid (own_base hO7 (BFV.out.grow.al (.cells #[.int .i64 1, .int .i64 2, .int .u64 ((n : Nat) : Int), (.slice (some ⟨u4.heap.size, 0, none⟩) t.size (grownCap u4.drew t.size 0 5))] 51)).size)
        clear hO7 hg7
        go_wp2
        refine HR.out _ _ (own_eq O7.out ?_ ?_) G7.out
        · rw [PVK.out]; simp [fput, fhead]
        · rw [PVK.out]; simp [fput, fhead]
      · go_wp2_with fail
        clear v0 v1 v2 v3 e0 e1 e2 e3 x1 y1 d1 g1 b1 h1 A3 g3 B3 h3 hcv
        rw [show ((Lib.bytesWorld (u4.setCell ⟨fb, 1, none⟩ (.int .i64 2)).drew 5 t).heap.size : Nat) = ((Lib.bytesWorld (u4.setCell ⟨fb, 1, none⟩ (.int .i64 2)).drew 5 t).setCell ⟨fb, 3, none⟩ (.slice (some ⟨u4.heap.size, 0, none⟩) t.size (grownCap (u4.setCell ⟨fb, 1, none⟩ (.int .i64 2)).drew t.size 0 5))).heap.size from (by rw [size_setCell])]
        generalize (Lib.bytesWorld (u4.setCell ⟨fb, 1, none⟩ (.int .i64 2)).drew 5 t).setCell ⟨fb, 3, none⟩ (.slice (some ⟨u4.heap.size, 0, none⟩) t.size (grownCap (u4.setCell ⟨fb, 1, none⟩ (.int .i64 2)).drew t.size 0 5)) = x6 at *
        go_at_call 30
        refine rput_any [⟨1, 2, n, (tx t), (.slice (some ⟨u4.heap.size, 0, none⟩) t.size (grownCap (u4.setCell ⟨fb, 1, none⟩ (.int .i64 2)).drew t.size 0 5))⟩] _ (fun _ => True) _ ⟨(Rd.laid (w := x6) (size := 4) #[.int .i64 1, .int .i64 2, .int .u64 ((n : Nat) : Int), (.slice (some ⟨u4.heap.size, 0, none⟩) t.size (grownCap (u4.setCell ⟨fb, 1, none⟩ (.int .i64 2)).drew t.size 0 5))] 51 (0, 0) 1 (by decide) rfl (Grow.refl _)).into (fun _ _ => trivial), fun f hf => by rw [List.mem_singleton.1 hf]; exact ⟨HK.out, (by unfold I64; dsimp only; decide), HN.out, ((RS2.out.gr2 (by decide) ((Grow.refl _).al _)).into (fun _ _ => trivial))⟩⟩ (by simp) (fun f hf => by rw [List.mem_singleton.1 hf]; exact TL.out) ?_
        intro r w7 hO7 hg7
        have G7 := Lib.hid ((BFW.out.grow.al (.cells #[.int .i64 1, .int .i64 2, .int .u64 ((n : Nat) : Int), (.slice (some ⟨u4.heap.size, 0, none⟩) t.size (grownCap (u4.setCell ⟨fb, 1, none⟩ (.int .i64 2)).drew t.size 0 5))] 51)).tr hg7)
        have O7 := Lib.hid (own_base hO7 (BFW.out.grow.al (.cells #[.int .i64 1, .int .i64 2, .int .u64 ((n : Nat) : Int), (.slice (some ⟨u4.heap.size, 0, none⟩) t.size (grownCap (u4.setCell ⟨fb, 1, none⟩ (.int .i64 2)).drew t.size 0 5))] 51)).size)
        clear hO7 hg7
        go_wp2
        refine HR.out _ _ (own_eq O7.out ?_ ?_) G7.out
        · rw [PVK.out]; simp [fput, fhead]
        · rw [PVK.out]; simp [fput, fhead]
    · have t1 : (k == 1) = false := by rw [beq_eq_false_iff_ne]; exact h1
      have x2 := BX4.out.cell 2
      by_cases h6 : k = 6
      · have t6 : (k == 6) = true := by rw [beq_iff_eq]; exact h6
        have t2 : (k == 2) = false := by rw [beq_eq_false_iff_ne]; omega
        have t3 : (k == 3) = false := by rw [beq_eq_false_iff_ne]; omega
        obtain ⟨n, hn⟩ : ∃ n : Nat, zig (IntKind.i64.wrap b) = n := ⟨(zig (IntKind.i64.wrap b)).toNat, by have := zig_nn (IntKind.i64.wrap b); omega⟩
        have HN : Hid (n < 18446744073709551616) := by show _ < _; have := zig_lt64 (IntKind.i64.wrap b) (IntKind.wrap_i64 b ▸ ⟨by omega, by omega⟩); omega
        have ZG := Lib.hid fun W (R : Ending → World → Prop) hR => rzig_any (IntKind.i64.wrap b) W (IntKind.wrap_i64 b ▸ ⟨by omega, by omega⟩) (R := R) hR
        rw [hn] at ZG
        rw [if_neg h1, if_pos h6, hn, if_neg h1, Int.toNat_natCast, show kindV k = 0 by rw [h6]; rfl] at PV
        have BF6 := Lib.hid (BF4.out.set 2 (.int .u64 (n : Nat)))
        have d2 := BF4.out.cell 2
        have gf2 := BF4.out.free 2
        have e0 := BF6.out.cell 0
        have e1 := BF6.out.cell 1
        have e2 := BF6.out.cell 2
        have e3 := BF6.out.cell 3
        clear h1 h6 hn
        go_wp2_with fail
        go_at_call 53
        rw [w64 b]
        refine ZG.out _ _ ?_
        go_wp2_with fail
        clear d2 gf2 e0 e1 e2 e3 x2 t1 t2 t3 t6
        rw [show (u4.heap.size : Nat) = (u4.setCell ⟨fb, 2, none⟩ (.int .u64 (n : Nat))).heap.size from (size_setCell _ _ _).symm]
        generalize u4.setCell ⟨fb, 2, none⟩ (.int .u64 (n : Nat)) = x6 at *
        go_at_call 30
        refine rput_any [⟨k, 0, n, [], (.slice none 0 0)⟩] _ (fun _ => True) _ ⟨(Rd.laid (w := x6) (size := 4) #[.int .i64 k, .int .i64 0, .int .u64 ((n : Nat) : Int), (.slice none 0 0)] 51 (0, 0) 1 (by decide) rfl (Grow.refl _)).into (fun _ _ => trivial), fun f hf => by rw [List.mem_singleton.1 hf]; exact ⟨HK.out, (by unfold I64; dsimp only; decide), HN.out, Rd.nil⟩⟩ (by simp) (fun f hf => by rw [List.mem_singleton.1 hf]; exact (Nat.zero_le _)) ?_
        intro r w7 hO7 hg7
        have G7 := Lib.hid ((BF6.out.grow.al (.cells #[.int .i64 k, .int .i64 0, .int .u64 ((n : Nat) : Int), (.slice none 0 0)] 51)).tr hg7)
        have O7 := Lib.hid (own_base hO7 (BF6.out.grow.al (.cells #[.int .i64 k, .int .i64 0, .int .u64 ((n : Nat) : Int), (.slice none 0 0)] 51)).size)
        clear hO7 hg7
        go_wp2
        refine HR.out _ _ (own_eq O7.out ?_ ?_) G7.out
        · rw [PV.out]; simp [fput, fhead]
        · rw [PV.out]; simp [fput, fhead]
      · have t6 : (k == 6) = false := by rw [beq_eq_false_iff_ne]; exact h6
        obtain ⟨n, hn⟩ := Int.eq_ofNat_of_zero_le HB.out.1
        have HN : Hid (n < 18446744073709551616) := by show _ < _; have := HB.out.2; omega
        rw [if_neg h1, if_neg h6, hn, if_neg h1, Int.toNat_natCast] at PV
        rw [hn] at BF4
        clear x2
        have d1 := BF4.out.cell 1
        have gf1 := BF4.out.free 1
        by_cases h2 : k = 2
        · have t2 : (k == 2) = true := by rw [beq_iff_eq]; exact h2
          rw [show kindV k = 5 by rw [h2]; rfl] at PV
          have BF6 := Lib.hid (BF4.out.set 1 (.int .i64 5))
          have e0 := BF6.out.cell 0
          have e1 := BF6.out.cell 1
          have e2 := BF6.out.cell 2
          have e3 := BF6.out.cell 3
          clear h1 h2 h6 hn
          go_wp2_with fail
          clear d1 gf1 e0 e1 e2 e3 t1 t2 t6
          rw [show (u4.heap.size : Nat) = (u4.setCell ⟨fb, 1, none⟩ (.int .i64 5)).heap.size from (size_setCell _ _ _).symm]
          generalize u4.setCell ⟨fb, 1, none⟩ (.int .i64 5) = x6 at *
          go_at_call 30
          refine rput_any [⟨k, 5, n, [], (.slice none 0 0)⟩] _ (fun _ => True) _ ⟨(Rd.laid (w := x6) (size := 4) #[.int .i64 k, .int .i64 5, .int .u64 ((n : Nat) : Int), (.slice none 0 0)] 51 (0, 0) 1 (by decide) rfl (Grow.refl _)).into (fun _ _ => trivial), fun f hf => by rw [List.mem_singleton.1 hf]; exact ⟨HK.out, (by unfold I64; dsimp only; decide), HN.out, Rd.nil⟩⟩ (by simp) (fun f hf => by rw [List.mem_singleton.1 hf]; exact (Nat.zero_le _)) ?_
          intro r w7 hO7 hg7
          have G7 := Lib.hid ((BF6.out.grow.al (.cells #[.int .i64 k, .int .i64 5, .int .u64 ((n : Nat) : Int), (.slice none 0 0)] 51)).tr hg7)
          have O7 := Lib.hid (own_base hO7 (BF6.out.grow.al (.cells #[.int .i64 k, .int .i64 5, .int .u64 ((n : Nat) : Int), (.slice none 0 0)] 51)).size)
          clear hO7 hg7
          go_wp2
          refine HR.out _ _ (own_eq O7.out ?_ ?_) G7.out
          · rw [PV.out]; simp [fput, fhead]
          · rw [PV.out]; simp [fput, fhead]
        · have t2 : (k == 2) = false := by rw [beq_eq_false_iff_ne]; exact h2
          by_cases h3 : k = 3
          · have t3 : (k == 3) = true := by rw [beq_iff_eq]; exact h3
            rw [show kindV k = 1 by rw [h3]; rfl] at PV
            have BF6 := Lib.hid (BF4.out.set 1 (.int .i64 1))
            have e0 := BF6.out.cell 0
            have e1 := BF6.out.cell 1
            have e2 := BF6.out.cell 2
            have e3 := BF6.out.cell 3
            clear h1 h2 h3 h6 hn
            go_wp2_with fail
            clear d1 gf1 e0 e1 e2 e3 t1 t2 t3 t6
            rw [show (u4.heap.size : Nat) = (u4.setCell ⟨fb, 1, none⟩ (.int .i64 1)).heap.size from (size_setCell _ _ _).symm]
            generalize u4.setCell ⟨fb, 1, none⟩ (.int .i64 1) = x6 at *
            go_at_call 30
            refine rput_any [⟨k, 1, n, [], (.slice none 0 0)⟩] _ (fun _ => True) _ ⟨(Rd.laid (w := x6) (size := 4) #[.int .i64 k, .int .i64 1, .int .u64 ((n : Nat) : Int), (.slice none 0 0)] 51 (0, 0) 1 (by decide) rfl (Grow.refl _)).into (fun _ _ => trivial), fun f hf => by rw [List.mem_singleton.1 hf]; exact ⟨HK.out, (by unfold I64; dsimp only; decide), HN.out, Rd.nil⟩⟩ (by simp) (fun f hf => by rw [List.mem_singleton.1 hf]; exact (Nat.zero_le _)) ?_
            intro r w7 hO7 hg7
            have G7 := Lib.hid ((BF6.out.grow.al (.cells #[.int .i64 k, .int .i64 1, .int .u64 ((n : Nat) : Int), (.slice none 0 0)] 51)).tr hg7)
            have O7 := Lib.hid (own_base hO7 (BF6.out.grow.al (.cells #[.int .i64 k, .int .i64 1, .int .u64 ((n : Nat) : Int), (.slice none 0 0)] 51)).size)
            clear hO7 hg7
            go_wp2
            refine HR.out _ _ (own_eq O7.out ?_ ?_) G7.out
            · rw [PV.out]; simp [fput, fhead]
            · rw [PV.out]; simp [fput, fhead]
          · have t3 : (k == 3) = false := by rw [beq_eq_false_iff_ne]; exact h3
            rw [show kindV k = 0 by unfold kindV; rw [if_neg h1, if_neg h2, if_neg h3]] at PV
            have e0 := BF4.out.cell 0
            have e1 := BF4.out.cell 1
            have e2 := BF4.out.cell 2
            have e3 := BF4.out.cell 3
            clear h1 h2 h3 h6 hn
            go_wp2_with fail
            clear d1 gf1 e0 e1 e2 e3 t1 t2 t3 t6
            rw [show (u4.heap.size : Nat) = (u4).heap.size from rfl]
            generalize u4 = x6 at *
            go_at_call 30
            refine rput_any [⟨k, 0, n, [], (.slice none 0 0)⟩] _ (fun _ => True) _ ⟨(Rd.laid (w := x6) (size := 4) #[.int .i64 k, .int .i64 0, .int .u64 ((n : Nat) : Int), (.slice none 0 0)] 51 (0, 0) 1 (by decide) rfl (Grow.refl _)).into (fun _ _ => trivial), fun f hf => by rw [List.mem_singleton.1 hf]; exact ⟨HK.out, (by unfold I64; dsimp only; decide), HN.out, Rd.nil⟩⟩ (by simp) (fun f hf => by rw [List.mem_singleton.1 hf]; exact (Nat.zero_le _)) ?_
            intro r w7 hO7 hg7
            have G7 := Lib.hid ((BF4.out.grow.al (.cells #[.int .i64 k, .int .i64 0, .int .u64 ((n : Nat) : Int), (.slice none 0 0)] 51)).tr hg7)
            have O7 := Lib.hid (own_base hO7 (BF4.out.grow.al (.cells #[.int .i64 k, .int .i64 0, .int .u64 ((n : Nat) : Int), (.slice none 0 0)] 51)).size)
            clear hO7 hg7
            go_wp2
            refine HR.out _ _ (own_eq O7.out ?_ ?_) G7.out
            · rw [PV.out]; simp [fput, fhead]
            · rw [PV.out]; simp [fput, fhead]
end Go.Proofs.YtjalimkajcjapaaDoor
