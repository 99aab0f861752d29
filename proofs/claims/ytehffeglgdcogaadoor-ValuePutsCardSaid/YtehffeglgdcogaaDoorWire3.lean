import Derived.Test.YtehffeglgdcogaaDoorChecked
import Derived.Test.YtehffeglgdcogaaDoorBase
import Derived.Test.YtehffeglgdcogaaDoorBits
import Derived.Test.YtehffeglgdcogaaDoorWire2
namespace Go.Proofs.YtehffeglgdcogaaDoor
open Go.RowKit

/-- a number as k bytes, the lowest first -/
def le (k v : Nat) : List UInt8 := (List.range k).map fun i => UInt8.ofNat (v / 256 ^ i % 256)
theorem le_succ (k v : Nat) : le (k + 1) v = le k v ++ [UInt8.ofNat (v / 256 ^ k % 256)] := by simp [le, List.range_succ]
theorem le_len (k v : Nat) : (le k v).length = k := by simp [le]
theorem pow256 (i : Nat) : (2 : Int) ^ (8 * i) = ((256 ^ i : Nat) : Int) := by rw [Int.pow_mul]; simp

theorem shift8 (v i : Nat) (m : Int) (hm : m = 2 ^ (8 * i)) : ((v : Int) / m) % 256 = ((v / 256 ^ i % 256 : Nat) : Int) := by
  rw [hm, pow256]
  simp

set_option maxRecDepth 100000 in
set_option maxHeartbeats 1000000 in
theorem fixed_any (b : Value) (base n : Nat) (xs : List Value) (v k : Nat) (w0 w : World) (hown : w.ownsRow base 5 1 b n xs) (hg : Grow w0 w) (hbase : w0.heap.size ≤ base ∧ base ≤ w.heap.size) (hn : n ≤ 1000000) (hk : k ≤ 8) {kk : Int} (hkk : kk = k)
    {R : Ending → World → Prop} (hR : ∀ r w', w'.ownsRow base 5 1 r (n + k) (xs ++ U8 (le k v)) → Grow w0 w' → R (.returned r) w') :
    Calls Tryd.prog 46 #[b, .int .u64 v, .int .i64 kk] w R := by
  subst hkk
  have HG := Lib.hid hg
  clear hg
  go_enter Tryd.func46, Tryd.ntmps46
  go_wp2
  go_loopw [9, 0] (fun i s wr => ∃ i' : Nat, i' ≤ k ∧ i = .int .i64 i' ∧ wr.ownsRow base 5 1 s (n + i') (xs ++ U8 (le i' v)) ∧ base ≤ wr.heap.size ∧ Hid (Grow w0 wr)) (fun i _ _ => k - (intOf i).toNat)
  case atStart => exact ⟨0, Nat.zero_le _, rfl, own_eq hown (by simp) (by simp [le, U8]), hbase.2, HG⟩
  case round =>
    obtain ⟨hbase, hb2⟩ := hbase
    clear hown hb2 HG
    obtain ⟨i, hi, rfl, hown, hbw, hg⟩ := hrel
    by_cases hlt : i < k
    · go_wp2_with (at_builtin; refine wpList_new rfl _ _ rfl el_u8 hown rfl 1 _ rfl (by decide) rfl (by simp [Value.oneCell']) (by omega) hg.out ⟨hbase, hbw⟩ ?_; intro v1 w1 hown1 hg1 hgr1 hb1; have HG1 := Lib.hid hg1; have hbw1 := Nat.le_trans hbw hgr1.size; clear hg1 hgr1 hb1)
      go_roundw
      case rel =>
        refine ⟨i + 1, by omega, by go_num, own_eq hown1 (by omega) ?_, hbw1, HG1⟩
        rw [le_succ, U8_app, U8_byte _ (by omega), ← List.append_assoc]
        rw [shift8 v i _ rfl]
      case measure => simp [intOf]; omega
    · obtain rfl : i = k := by omega
      go_wp2
      exact hR _ _ hown hg.out

set_option maxRecDepth 100000 in
set_option maxHeartbeats 1000000 in
theorem rfixed_any (v k : Nat) (w : World) (hk : k ≤ 8) (hv : v < 18446744073709551616) {kk : Int} (hkk : kk = k)
    {R : Ending → World → Prop} (hR : ∀ r w', w'.ownsRow w.heap.size 5 1 r k (U8 (le k v)) → Grow w w' → R (.returned r) w') :
    Calls Tryd.prog 49 #[.int .u64 v, .int .i64 kk] w R := by
  subst hkk
  go_enter Tryd.func49, Tryd.ntmps49
  go_wp2
  go_loopw [6, 5, 0] (fun i s u wr => ∃ i' : Nat, i' ≤ k ∧ i = .int .i64 i' ∧ u = .int .u64 ((v / 256 ^ i' : Nat) : Int) ∧ wr.ownsRow w.heap.size 5 1 s i' (U8 (le i' v)) ∧ Hid (Grow w wr)) (fun i _ _ _ => k - (intOf i).toNat)
  case atStart => exact ⟨0, Nat.zero_le _, rfl, by simp, World.ownsRow_nil _ _ _ _, Grow.refl _⟩
  case round =>
    obtain ⟨i, hi, rfl, rfl, hown, hg⟩ := hrel
    by_cases hlt : i < k
    · have hx : v / 256 ^ i ≤ v := Nat.div_le_self _ _
      generalize hX : v / 256 ^ i = x at *
      have HX := Lib.hid hX
      clear hX
      go_wp2_with (at_builtin; refine wpList_new rfl _ _ rfl el_u8 hown rfl 1 _ rfl (by decide) rfl (by simp [Value.oneCell']) (by omega) hg.out ⟨Nat.le_refl _, hg.out.size⟩ ?_; intro v1 w1 hown1 hg1 hgr1 hb1; have HG1 := Lib.hid hg1; clear hg1 hgr1 hb1)
      go_roundw
      case rel =>
        refine ⟨i + 1, by omega, by go_num, ?_, own_eq hown1 rfl ?_, HG1⟩
        · rw [← HX.out, Nat.pow_succ, ← Nat.div_div_eq_div_mul]; simp
        rw [le_succ, U8_app, U8_byte _ (by omega), HX.out]
        rfl
      case measure => simp [intOf]; omega
    · obtain rfl : i = k := by omega
      go_wp2
      exact hR _ _ hown hg.out
end Go.Proofs.YtehffeglgdcogaaDoor
