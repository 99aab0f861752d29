import Derived.Test.YtehffeglgdcogaaDoorChecked
import Derived.Test.YtehffeglgdcogaaDoorBase
import Derived.Test.YtehffeglgdcogaaDoorBits
import Derived.Test.YtehffeglgdcogaaDoorWireP
import Derived.OwnWalk
namespace Go.Proofs.YtehffeglgdcogaaDoor
open Go.RowKit
theorem el_u8 : Elem Tryd.prog 29 5 (.int .u8 0) 1 1 := ⟨by kernel_rfl, by kernel_rfl, rfl, by decide, by decide⟩

theorem U8_byte (x : Nat) (hx : x < 256) : U8 [UInt8.ofNat x] = [.int .u8 (x : Int)] := by
  simp only [U8, List.map_cons, List.map_nil]
  have e : (UInt8.ofNat x).toNat = x := by rw [UInt8.toNat_ofNat']; omega
  rw [e]

set_option maxRecDepth 100000 in
set_option maxHeartbeats 1000000 in
theorem rbytes_any (v : Nat) (w : World) (hv : v < 18446744073709551616) {R : Ending → World → Prop}
    (hR : ∀ r w', w'.ownsRow w.heap.size 5 1 r (vput 9 v).length (U8 (vput 9 v)) → Grow w w' → R (.returned r) w') :
    Calls Tryd.prog 48 #[.int .u64 v] w R := by
  go_enter Tryd.func48, Tryd.ntmps48
  go_wp2
  go_loopw [0, 3] (fun n s wr => ∃ (f n' : Nat) (done : List UInt8), n = .int .u64 n' ∧ n' < 18446744073709551616 ∧ Hid (n' < 128 ^ (f + 1)) ∧ Hid (vput 9 v = done ++ vput f n') ∧ Hid (done.length + f = 9) ∧ wr.ownsRow w.heap.size 5 1 s done.length (U8 done) ∧ Hid (Grow w wr)) (fun n _ _ => (intOf n).toNat)
  case atStart => exact ⟨9, v, [], rfl, hv, lt128 hv, rfl, rfl, World.ownsRow_nil _ _ _ _, Grow.refl _⟩
  case round =>
    obtain ⟨f, n, done, rfl, hn, hnf, hvp, hdl, hown, hg⟩ := hrel
    have hd9 : done.length ≤ 9 := by have := hdl.out; omega
    by_cases hlt : n < 128
    · go_wp2_with (at_builtin; refine wpList_new rfl _ _ rfl el_u8 hown rfl 1 _ rfl (by decide) rfl (by simp [Value.oneCell']) (by omega) hg.out ⟨Nat.le_refl _, hg.out.size⟩ ?_; intro v1 w1 hown1 hg1 hgr1 hb1; have HG1 := Lib.hid hg1; clear hg1 hgr1 hb1)
      have e1 : vput 9 v = done ++ [UInt8.ofNat n] := by rw [hvp.out, vput_one hlt]
      refine hR _ _ (own_eq hown1 (by rw [e1]; simp) ?_) HG1.out
      rw [e1, U8_app, U8_byte n (by omega)]
    · go_wp2_with (at_builtin; refine wpList_new rfl _ _ rfl el_u8 hown rfl 1 _ rfl (by decide) rfl (by simp [Value.oneCell']) (by omega) hg.out ⟨Nat.le_refl _, hg.out.size⟩ ?_; intro v1 w1 hown1 hg1 hgr1 hb1; have HG1 := Lib.hid hg1; clear hg1 hgr1 hb1)
      go_roundw
      case rel =>
        have hf : f ≠ 0 := by
          rintro rfl
          have := hnf.out
          simp at this
          omega
        obtain ⟨f, rfl⟩ := Nat.exists_eq_succ_of_ne_zero hf
        refine ⟨f, n / 128, done ++ [UInt8.ofNat (n % 128 + 128)], by go_num, by omega, ?_, ?_, ?_, own_eq hown1 (by simp) ?_, HG1⟩
        · show n / 128 < 128 ^ (f + 1)
          have := hnf.out
          rw [Nat.pow_succ] at this
          omega
        · show _ = _
          rw [hvp.out, vput_more hlt, List.append_assoc]
          rfl
        · show _ = _
          have := hdl.out
          simp
          omega
        · rw [U8_app, U8_byte _ (by omega)]
          simp
      case measure => simp [intOf]; omega

set_option maxRecDepth 100000 in
set_option maxHeartbeats 1000000 in
theorem clone_any (l : List UInt8) (v : Value) (S : Nat → Prop) (w : World) (hb : Rd w S 1 v l.length (U8 l)) (hl : l.length ≤ 1000000) {R : Ending → World → Prop}
    (hR : ∀ r w', w'.ownsRow w.heap.size 5 1 r l.length (U8 l) → Grow w w' → R (.returned r) w') :
    Calls Tryd.prog 51 #[v] w R := by
  have HB := Lib.hid hb
  obtain ⟨_, A, c, rfl, h1, h2, h3, h4⟩ := hb
  rcases A with _ | a
  · have hne := fun w => Lib.run_eql_slice_nil (P := Tryd.prog) w 29 5 none 0 0 0 0 Tryd.underlying29
    obtain rfl : c = 0 := h3 rfl
    obtain rfl : l = [] := List.eq_nil_of_length_eq_zero (by omega)
    clear h4 h2 h3
    go_enter Tryd.func51, Tryd.ntmps51
    go_wp2
    exact hR _ _ (World.ownsRow_nil _ _ _ _) (Grow.refl _)
  · have hne := fun w => Lib.run_eql_slice_nil (P := Tryd.prog) w 29 5 (some a) l.length c 0 0 Tryd.underlying29
    clear h3 h4 h2
    have hrow := Lib.hid (World.ownsRow_lit (base := w.heap.size) (e := 5) (size := 1) w #[] 0 (Nat.le_refl _) (by decide) rfl)
    go_enter Tryd.func51, Tryd.ntmps51
    go_wp2_with (at_builtin; refine wpList_app rfl _ _ rfl el_u8 hrow.out rfl (HB.out.al (by decide) _) rfl (U8_one _) (by omega) (by simp) ?_; intro v1 w1 hown1 hgr1 hb1)
    exact hR _ _ (own_eq hown1 (by simp) (by simp)) (grow_app ((Grow.refl w).al _) hgr1 (own_ge hrow.out))

theorem or128 (x : Nat) : bits .or .u8 ((x : Int) % 256) 128 = ((x % 128 + 128 : Nat) : Int) := by
  rw [show (x : Int) % 256 = ((x % 256 : Nat) : Int) by omega]
  have h := u8_or_nat (x % 256) 128 (by omega) (by decide)
  refine h.trans ?_
  have h2 : x % 256 = 128 * (x % 256 / 128) + x % 128 := by omega
  have h3 : x % 256 / 128 = 0 ∨ x % 256 / 128 = 1 := by omega
  rcases h3 with h3 | h3
  · rw [h3] at h2
    rw [h2, Nat.mul_zero, Nat.zero_add, Nat.or_comm]
    have := Nat.two_pow_add_eq_or_of_lt (i := 7) (b := x % 128) (by omega) 1
    rw [show 2 ^ 7 * 1 = 128 from rfl] at this
    rw [← this]
    omega
  · rw [h3] at h2
    have := Nat.two_pow_add_eq_or_of_lt (i := 7) (b := x % 128) (by omega) 1
    rw [show 2 ^ 7 * 1 = 128 from rfl] at this
    rw [h2, Nat.mul_one, this, Nat.or_comm (128 ||| x % 128), ← Nat.or_assoc, Nat.or_self, ← this]
    omega

set_option maxRecDepth 100000 in
set_option maxHeartbeats 1000000 in
theorem putVarint_any (l : List UInt8) (b : Value) (v : Nat) (S : Nat → Prop) (w : World) (hb : Rd w S 1 b l.length (U8 l)) (hl : l.length ≤ 900000) (hv : v < 18446744073709551616) {R : Ending → World → Prop}
    (hR : ∀ r w', w'.ownsRow w.heap.size 5 1 r (l ++ vput 9 v).length (U8 (l ++ vput 9 v)) → Grow w w' → R (.returned r) w') :
    Calls Tryd.prog 45 #[b, .int .u64 v] w R := by
  go_enter Tryd.func45, Tryd.ntmps45
  go_wp2_with (go_at_call 51; refine clone_any l _ S _ hb (by omega) ?_; intro r1 w1 hown1 hg1)
  go_loopw [1, 0] (fun n s wr => ∃ (f n' : Nat) (done : List UInt8), n = .int .u64 n' ∧ n' < 18446744073709551616 ∧ Hid (n' < 128 ^ (f + 1)) ∧ Hid (l ++ vput 9 v = done ++ vput f n') ∧ Hid (done.length + f = l.length + 9) ∧ wr.ownsRow w.heap.size 5 1 s done.length (U8 done) ∧ Hid (Grow w wr)) (fun n _ _ => (intOf n).toNat)
  case atStart => exact ⟨9, v, l, rfl, hv, lt128 hv, rfl, rfl, hown1, hg1⟩
  case round =>
    clear hown1 hg1
    obtain ⟨f, n, done, rfl, hn, hnf, hvp, hdl, hown, hg⟩ := hrel
    have hd9 : done.length ≤ 900009 := by have := hdl.out; omega
    by_cases hlt : n < 128
    · go_wp2_with (at_builtin; refine wpList_new rfl _ _ rfl el_u8 hown rfl 1 _ rfl (by decide) rfl (by simp [Value.oneCell']) (by omega) hg.out ⟨Nat.le_refl _, hg.out.size⟩ ?_; intro v1 w1 hown1 hg1 hgr1 hb1; have HG1 := Lib.hid hg1; clear hg1 hgr1 hb1)
      have e1 : l ++ vput 9 v = done ++ [UInt8.ofNat n] := by rw [hvp.out, vput_one hlt]
      refine hR _ _ (own_eq hown1 (by rw [e1]; simp) ?_) HG1.out
      rw [e1, U8_app, U8_byte n (by omega)]
    · go_wp2_with (at_builtin; refine wpList_new rfl _ _ rfl el_u8 hown rfl 1 _ rfl (by decide) rfl (by simp [Value.oneCell']) (by omega) hg.out ⟨Nat.le_refl _, hg.out.size⟩ ?_; intro v1 w1 hown1 hg1 hgr1 hb1; have HG1 := Lib.hid hg1; clear hg1 hgr1 hb1)
      go_roundw
      case rel =>
        have hf : f ≠ 0 := by
          rintro rfl
          have := hnf.out
          simp at this
          omega
        obtain ⟨f, rfl⟩ := Nat.exists_eq_succ_of_ne_zero hf
        refine ⟨f, n / 128, done ++ [UInt8.ofNat (n % 128 + 128)], by go_num, by omega, ?_, ?_, ?_, own_eq hown1 (by simp) ?_, HG1⟩
        · show n / 128 < 128 ^ (f + 1)
          have := hnf.out
          rw [Nat.pow_succ] at this
          omega
        · show _ = _
          rw [hvp.out, vput_more hlt, List.append_assoc]
          rfl
        · show _ = _
          have := hdl.out
          simp
          omega
        · rw [U8_app, U8_byte _ (by omega), or128]
      case measure => simp [intOf]; omega
theorem rbytes_at (v : Nat) {x : Int} (w : World) (hx : x = v) (hv : v < 18446744073709551616) {R : Ending → World → Prop}
    (hR : ∀ r w', w'.ownsRow w.heap.size 5 1 r (vput 9 v).length (U8 (vput 9 v)) → Grow w w' → R (.returned r) w') :
    Calls Tryd.prog 48 #[.int .u64 x] w R := by
  subst hx
  exact rbytes_any v w hv hR

end Go.Proofs.YtehffeglgdcogaaDoor
