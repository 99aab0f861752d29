/-
  Bits and wraps as plain arithmetic. No program is named here. Numbers as bytes, in plain Lean: no program is named here.    Numbers one behind the other, in plain Lean: no program is named here.  Fields of bytes, in plain Lean: no program is named here.     Fields of bytes, in plain Lean: messages one behind the other; what is put is got. No program is named here.
-/
import Derived.WalkKit
import Derived.Laws.BitsAllLaws
import Derived.Laws.Bits64b
import Derived.Test.YtjalimkajcjapaaDoorChecked
import Derived.Test.YtjalimkajcjapaaDoorCore
import Derived.OwnWalk
import Derived.Handy
namespace Go.Proofs.YtjalimkajcjapaaDoor

theorem pow128 (i : Nat) : 128 ^ i = 2 ^ (7 * i) := by rw [Nat.pow_mul]

theorem lt128 {v : Nat} (h : v < 18446744073709551616) : v < 128 ^ (9 + 1) := by
  have e : 128 ^ (9 + 1) = 1180591620717411303424 := by decide
  omega

theorem and127 (x : Nat) (hx : x < 256) : bits .and .u8 (x : Int) 127 = ((x % 128 : Nat) : Int) := by
  have h := u8_and_nat x 127 hx (by decide)
  rw [show (127 : Nat) = 2 ^ 7 - 1 from rfl, Nat.and_two_pow_sub_one_eq_mod] at h
  exact h

/-- A varint's next seven bits go above those that are read. -/
theorem vor (a x i : Nat) (m : Int) (hm : m = 2 ^ (7 * i)) (ha : a < 128 ^ i) (hi : i < 10) (hx : x < 256) (h9 : ¬ (i = 9 ∧ 1 < x)) :
    bits .or .u64 (a : Int) (IntKind.u64.wrap (IntKind.u64.wrap (bits .and .u8 (x : Int) 127) * m)) = ((a + x % 128 * 128 ^ i : Nat) : Int) ∧ (a + x % 128 * 128 ^ i) < 128 ^ (i + 1) ∧ (a + x % 128 * 128 ^ i) < 18446744073709551616 := by
  have hb : x % 128 * 128 ^ i + 128 ^ i ≤ 128 ^ (i + 1) := by
    have h : (x % 128 + 1) * 128 ^ i ≤ 128 * 128 ^ i := Nat.mul_le_mul_right _ (by omega)
    rw [Nat.pow_succ, Nat.mul_comm (128 ^ i) 128]
    rw [Nat.add_mul] at h
    omega
  have h64 : x % 128 * 128 ^ i + 128 ^ i ≤ 18446744073709551616 := by
    by_cases h : i = 9
    · subst h
      have h : (x % 128 + 1) * 128 ^ 9 ≤ 2 * 128 ^ 9 := Nat.mul_le_mul_right _ (by omega)
      have e : 2 * 128 ^ 9 = 18446744073709551616 := by decide
      rw [Nat.add_mul] at h
      omega
    · have h1 : 128 ^ (i + 1) ≤ 128 ^ 9 := Nat.pow_le_pow_right (by decide) (by omega)
      have e : 128 ^ 9 = 9223372036854775808 := by decide
      omega
  refine ⟨?_, by omega, by omega⟩
  rw [and127 x hx, IntKind.wrap_u64, IntKind.wrap_u64]
  have e1 : ((x % 128 : Nat) : Int) % 18446744073709551616 = ((x % 128 : Nat) : Int) := by omega
  have e2 : m = ((128 ^ i : Nat) : Int) := by rw [hm, pow128]; simp
  rw [e1, e2, ← Int.natCast_mul]
  have e3 : ((x % 128 * 128 ^ i : Nat) : Int) % 18446744073709551616 = ((x % 128 * 128 ^ i : Nat) : Int) := by omega
  rw [e3, bits_or_u64_nat _ _ (by omega) (by omega), Nat.or_comm]
  have h := Nat.two_pow_add_eq_or_of_lt (i := 7 * i) (b := a) (by rw [← pow128]; exact ha) (x % 128)
  rw [← pow128, Nat.mul_comm (128 ^ i)] at h
  rw [← h, Nat.add_comm]

/-- The same by a sum. -/
theorem vadd (a x i u : Nat) (hu : 128 ^ i = u) (ha : a < u) (hi : i < 10) (hx : x < 256) (h9 : ¬ (i = 9 ∧ 1 < x)) :
    IntKind.u64.wrap ((a : Int) + IntKind.u64.wrap ((x : Int) % 128 * u)) = ((a + x % 128 * 128 ^ i : Nat) : Int) ∧ (a + x % 128 * 128 ^ i) < 128 ^ (i + 1) ∧ (a + x % 128 * 128 ^ i) < 18446744073709551616 := by
  subst hu
  obtain ⟨_, h1, h2⟩ := vor a x i _ rfl ha hi hx h9
  refine ⟨?_, h1, h2⟩
  rw [IntKind.wrap_u64, IntKind.wrap_u64]
  have e : (x : Int) % 128 * ((128 ^ i : Nat) : Int) = ((x % 128 * 128 ^ i : Nat) : Int) := by simp
  rw [e]
  generalize x % 128 * 128 ^ i = y at *
  omega

theorem unit_next (i u : Nat) (hu : 128 ^ i = u) : IntKind.u64.wrap ((u : Int) * 128) = ((128 ^ (i + 1) % 18446744073709551616 : Nat) : Int) := by
  subst hu
  rw [IntKind.wrap_u64, Nat.pow_succ]
  omega

theorem xor_u64_zero (a : Int) (h : 0 ≤ a ∧ a < 18446744073709551616) : bits .xor .u64 a 0 = a := by
  obtain ⟨a, rfl⟩ := Int.eq_ofNat_of_zero_le h.1
  have := bits_xor_u64_nat a 0 (by omega) (by decide)
  rw [Nat.xor_zero] at this
  exact this
theorem xor_ones (a : Nat) (ha : a < 18446744073709551616) : a ^^^ 18446744073709551615 = 18446744073709551615 - a := by
  have h := congrArg BitVec.toNat (BitVec.xor_allOnes (x := BitVec.ofNat 64 a))
  rw [BitVec.toNat_xor, BitVec.toNat_not, BitVec.toNat_allOnes, BitVec.toNat_ofNat, Nat.mod_eq_of_lt (by omega)] at h
  exact h
theorem xor_u64_ones (a : Int) (h : 0 ≤ a ∧ a < 18446744073709551616) : bits .xor .u64 a 18446744073709551615 = 18446744073709551615 - a := by
  obtain ⟨a, rfl⟩ := Int.eq_ofNat_of_zero_le h.1
  have := bits_xor_u64_nat a 18446744073709551615 (by omega) (by decide)
  rw [xor_ones a (by omega)] at this
  refine Eq.trans this ?_
  omega
theorem xor_i64_zero (a : Int) (h : 0 ≤ a ∧ a < 9223372036854775808) : bits .xor .i64 a 0 = a := by
  obtain ⟨a, rfl⟩ := Int.eq_ofNat_of_zero_le h.1
  show IntKind.i64.wrap ((BitVec.ofInt 64 (a : Int) ^^^ BitVec.ofInt 64 0).toNat : Int) = _
  have e : BitVec.ofInt 64 (0 : Int) = 0#64 := rfl
  rw [e, BitVec.xor_zero, BitVec.ofInt_natCast, BitVec.toNat_ofNat, IntKind.wrap_i64]
  omega
theorem xor_i64_ones (a : Int) (h : 0 ≤ a ∧ a < 9223372036854775808) : bits .xor .i64 a (-1) = -a - 1 := by
  obtain ⟨a, rfl⟩ := Int.eq_ofNat_of_zero_le h.1
  show IntKind.i64.wrap ((BitVec.ofInt 64 (a : Int) ^^^ BitVec.ofInt 64 (-1)).toNat : Int) = _
  have e : BitVec.ofInt 64 (-1 : Int) = BitVec.allOnes 64 := rfl
  rw [e, BitVec.xor_allOnes, BitVec.toNat_not, BitVec.ofInt_natCast, BitVec.toNat_ofNat, IntKind.wrap_i64]
  omega
theorem and_u64_one (a : Int) (h : 0 ≤ a ∧ a < 18446744073709551616) : bits .and .u64 a 1 = a % 2 := by
  obtain ⟨a, rfl⟩ := Int.eq_ofNat_of_zero_le h.1
  have h := bits_and_u64_nat a 1 (by omega) (by decide)
  rw [Nat.and_one_is_mod] at h
  refine Eq.trans h ?_
  omega

theorem and_mask_i64 (n : Int) (k : Nat) (hk : k ≤ 62) : bits .and .i64 n ((2 ^ k - 1 : Nat) : Int) = n % ((2 ^ k : Nat) : Int) := by
  have hp : 0 < 2 ^ k := Nat.two_pow_pos k
  have h62 : 2 ^ k ≤ 2 ^ 62 := Nat.pow_le_pow_right (by decide) hk
  have h62' : 2 ^ k ≤ 4611686018427387904 := h62
  show IntKind.i64.wrap ((BitVec.ofInt 64 n &&& BitVec.ofInt 64 ((2 ^ k - 1 : Nat) : Int)).toNat : Int) = _
  rw [BitVec.toNat_and, BitVec.ofInt_natCast (n := 2 ^ k - 1), BitVec.toNat_ofNat, Nat.mod_eq_of_lt (a := 2 ^ k - 1) (by omega), Nat.and_two_pow_sub_one_eq_mod, IntKind.wrap_i64, BitVec.toNat_ofInt]
  have hd : ((2 ^ k : Nat) : Int) ∣ ((2 ^ 64 : Nat) : Int) := Int.natCast_dvd_natCast.2 (Nat.pow_dvd_pow 2 (by omega))
  have e1 : (((n % ((2 ^ 64 : Nat) : Int)).toNat % 2 ^ k : Nat) : Int) = n % ((2 ^ k : Nat) : Int) := by
    rw [Int.natCast_emod, Int.toNat_of_nonneg (Int.emod_nonneg _ (by decide)), Int.emod_emod_of_dvd _ hd]
  rw [e1]
  have h1 := Int.emod_nonneg n (b := ((2 ^ k : Nat) : Int)) (by omega)
  have h2 := Int.emod_lt_of_pos n (b := ((2 ^ k : Nat) : Int)) (by omega)
  omega
theorem and_i64_29 (n : Int) : bits .and .i64 n 536870911 = n % 536870912 := and_mask_i64 n 29 (by decide)
theorem and_i64_3 (n : Int) : bits .and .i64 n 7 = n % 8 := and_mask_i64 n 3 (by decide)

/-- the head of a field -/
theorem head_bits (n k : Int) : bits .or .u64 (IntKind.u64.wrap (IntKind.u64.wrap (bits .and .i64 n 536870911) * 8)) (IntKind.u64.wrap (bits .and .i64 k 7)) = (((n % 536870912 * 8 + k % 8).toNat : Nat) : Int) := by
  rw [and_i64_29, and_i64_3]
  simp only [IntKind.wrap_u64]
  have h1 : n % 536870912 = ((n % 536870912).toNat : Int) := by omega
  have h2 : k % 8 = ((k % 8).toNat : Int) := by omega
  have h3 : (n % 536870912).toNat < 536870912 := by omega
  have h4 : (k % 8).toNat < 8 := by omega
  generalize (n % 536870912).toNat = x at *
  generalize (k % 8).toNat = y at *
  rw [h1, h2]
  have e1 : (x : Int) % 18446744073709551616 * 8 % 18446744073709551616 = ((x * 8 : Nat) : Int) := by omega
  have e2 : (y : Int) % 18446744073709551616 = (y : Int) := by omega
  rw [e1, e2, bits_or_u64_nat _ _ (by omega) (by omega)]
  have h := Nat.two_pow_add_eq_or_of_lt (i := 3) (b := y) h4 x
  rw [Nat.mul_comm] at h
  rw [← h]
  omega

theorem tmod29 (n : Int) : (n.tmod 536870912 < 0 → n % 536870912 = n.tmod 536870912 + 536870912) ∧ (¬ n.tmod 536870912 < 0 → n % 536870912 = n.tmod 536870912) ∧ -536870912 < n.tmod 536870912 ∧ n.tmod 536870912 < 536870912 := by
  by_cases h : 0 ≤ n
  · rw [Int.tmod_eq_emod_of_nonneg h]
    omega
  · obtain ⟨m, rfl⟩ : ∃ m, n = -m := ⟨-n, by omega⟩
    rw [Int.neg_tmod, Int.tmod_eq_emod_of_nonneg (show 0 ≤ m by omega)]
    omega

end Go.Proofs.YtjalimkajcjapaaDoor

namespace Go.Proofs.YtjalimkajcjapaaDoor

/-- A number read off the bytes from place k on: i bytes of it are read, and are v. -/
def vgo (b : List UInt8) (k : Nat) : Nat → Nat → Nat → Int × Int × Int
  | 0, _, _ => (0, 0, 3)
  | f + 1, i, v =>
    match b[k + i]? with
    | none => (0, 0, 2)
    | some c =>
      if i = 9 ∧ 1 < c.toNat then (0, 0, 3)
      else if c.toNat < 128 then (((v + c.toNat % 128 * 128 ^ i : Nat) : Int), ((k + i + 1 : Nat) : Int), 0)
      else vgo b k f (i + 1) (v + c.toNat % 128 * 128 ^ i)

def varint (b : List UInt8) (k : Int) : Int × Int × Int :=
  if k < 0 ∨ (b.length : Int) < k then (0, 0, 8) else vgo b k.toNat 10 0 0

/-- a number as bytes, seven bits each -/
def vput : Nat → Nat → List UInt8
  | 0, v => [UInt8.ofNat v]
  | f + 1, v => if v < 128 then [UInt8.ofNat v] else UInt8.ofNat (v % 128 + 128) :: vput f (v / 128)

theorem vput_one {f v : Nat} (h : v < 128) : vput f v = [UInt8.ofNat v] := by
  cases f with
  | zero => rfl
  | succ f => simp [vput, h]
theorem vput_more {f v : Nat} (h : ¬ v < 128) : vput (f + 1) v = UInt8.ofNat (v % 128 + 128) :: vput f (v / 128) := by simp [vput, h]
theorem vput_len (f : Nat) : ∀ v, 1 ≤ (vput f v).length ∧ (vput f v).length ≤ f + 1 := by
  induction f with
  | zero => intro v; simp [vput]
  | succ f ih => intro v; have := ih (v / 128); unfold vput; split <;> simp <;> omega
theorem vgo_short {b : List UInt8} {k f i v : Nat} (h : b.length ≤ k + i) : vgo b k (f + 1) i v = (0, 0, 2) := by
  simp [vgo, List.getElem?_eq_none h]
theorem vgo_form {b : List UInt8} {k f i v x : Nat} (h : k + i < b.length) (hx : b[k + i].toNat = x) (h9 : i = 9 ∧ 1 < x) : vgo b k (f + 1) i v = (0, 0, 3) := by
  simp only [vgo, List.getElem?_eq_getElem h, hx]
  rw [if_pos h9]
theorem vgo_done {b : List UInt8} {k f i v x : Nat} (h : k + i < b.length) (hx : b[k + i].toNat = x) (h9 : ¬ (i = 9 ∧ 1 < x)) (hl : x < 128) :
    vgo b k (f + 1) i v = (((v + x % 128 * 128 ^ i : Nat) : Int), ((k + i + 1 : Nat) : Int), 0) := by
  simp only [vgo, List.getElem?_eq_getElem h, hx]
  rw [if_neg h9, if_pos hl]
theorem vgo_more {b : List UInt8} {k f i v x : Nat} (h : k + i < b.length) (hx : b[k + i].toNat = x) (h9 : ¬ (i = 9 ∧ 1 < x)) (hl : ¬ x < 128) :
    vgo b k (f + 1) i v = vgo b k f (i + 1) (v + x % 128 * 128 ^ i) := by
  simp only [vgo, List.getElem?_eq_getElem h, hx]
  rw [if_neg h9, if_neg hl]

/-- What is put is got: from f + 1 - .. bytes on. -/
theorem vgo_vput (l t : List UInt8) (k : Nat) (hk : k = l.length) : ∀ (f i a v : Nat), i + f = 9 → v < 2 * 128 ^ f → ∀ m : List UInt8, m.length = i → 
    vgo (l ++ (m ++ (vput f v ++ t))) k (f + 1) i a = (((a + v * 128 ^ i : Nat) : Int), ((k + i + (vput f v).length : Nat) : Int), 0) := by
  intro f
  induction f with
  | zero =>
    intro i a v hi hv m hm
    have hv2 : v < 2 := by simpa using hv
    have hget : k + i < (l ++ (m ++ (vput 0 v ++ t))).length := by simp [vput]; omega
    have hx : (l ++ (m ++ (vput 0 v ++ t)))[k + i].toNat = v := by
      simp only [hk, ← hm]
      rw [List.getElem_append_right (by omega)]
      simp [vput]
      omega
    rw [vgo_done hget hx (by omega) (by omega)]
    simp [vput, Nat.mod_eq_of_lt (show v < 128 by omega)]
  | succ f ih =>
    intro i a v hi hv m hm
    by_cases hlt : v < 128
    · have hget : k + i < (l ++ (m ++ (vput (f + 1) v ++ t))).length := by rw [vput_one hlt]; simp; omega
      have hx : (l ++ (m ++ (vput (f + 1) v ++ t)))[k + i].toNat = v := by
        simp only [vput_one hlt, hk, ← hm]
        rw [List.getElem_append_right (by omega)]
        simp
        omega
      rw [vgo_done hget hx (by omega) hlt, vput_one hlt, Nat.mod_eq_of_lt hlt]
      simp
    · have hget : k + i < (l ++ (m ++ (vput (f + 1) v ++ t))).length := by rw [vput_more hlt]; simp; omega
      have hx : (l ++ (m ++ (vput (f + 1) v ++ t)))[k + i].toNat = v % 128 + 128 := by
        simp only [vput_more hlt, hk, ← hm]
        rw [List.getElem_append_right (by omega)]
        simp
        omega
      rw [vgo_more hget hx (by omega) (by omega)]
      have h := ih (i + 1) (a + (v % 128 + 128) % 128 * 128 ^ i) (v / 128) (by omega) (by rw [Nat.pow_succ] at hv; omega) (m ++ [UInt8.ofNat (v % 128 + 128)]) (by simp [hm])
      have e : l ++ (m ++ (vput (f + 1) v ++ t)) = l ++ (m ++ [UInt8.ofNat (v % 128 + 128)] ++ (vput f (v / 128) ++ t)) := by rw [vput_more hlt]; simp
      rw [e, h, vput_more hlt]
      refine Prod.ext ?_ (Prod.ext ?_ rfl)
      · have h1 : (v % 128 + 128) % 128 = v % 128 := by omega
        have h2 : v / 128 * 128 ^ (i + 1) = v / 128 * 128 * 128 ^ i := by rw [Nat.pow_succ, Nat.mul_comm (128 ^ i), Nat.mul_assoc]
        have h3 : v % 128 * 128 ^ i + v / 128 * 128 * 128 ^ i = v * 128 ^ i := by
          rw [← Nat.add_mul]
          congr 1
          omega
        show ((_ : Nat) : Int) = ((_ : Nat) : Int)
        rw [h1, h2, Nat.add_assoc, h3]
      · show ((_ : Nat) : Int) = ((_ : Nat) : Int)
        simp
        omega

theorem varint_vput (l t : List UInt8) (v : Nat) (hv : v < 18446744073709551616) :
    varint (l ++ (vput 9 v ++ t)) l.length = ((v : Int), ((l.length + (vput 9 v).length : Nat) : Int), 0) := by
  have e : 2 * 128 ^ 9 = 18446744073709551616 := by decide
  have h := vgo_vput l t l.length rfl 9 0 0 v rfl (by omega) [] rfl
  unfold varint
  rw [if_neg (by simp only [List.length_append]; omega)]
  simpa using h

end Go.Proofs.YtjalimkajcjapaaDoor

namespace Go.Proofs.YtjalimkajcjapaaDoor
open Go.RowKit
theorem el_u8 : Elem Tryd.prog 25 5 (.int .u8 0) 1 1 := ⟨by kernel_rfl, by kernel_rfl, rfl, by decide, by decide⟩

theorem U8_byte (x : Nat) (hx : x < 256) : U8 [UInt8.ofNat x] = [.int .u8 (x : Int)] := by
  simp only [U8, List.map_cons, List.map_nil]
  have e : (UInt8.ofNat x).toNat = x := by rw [UInt8.toNat_ofNat']; omega
  rw [e]

set_option maxRecDepth 100000 in
set_option maxHeartbeats 1000000 in
theorem rbytes_any (v : Nat) (w : World) (hv : v < 18446744073709551616) {R : Ending → World → Prop}
    (hR : ∀ r w', w'.ownsRow w.heap.size 5 1 r (vput 9 v).length (U8 (vput 9 v)) → Grow w w' → R (.returned r) w') :
    Calls Tryd.prog 52 #[.int .u64 v] w R := by
  go_enter Tryd.func52, Tryd.ntmps52
  go_wp2
  go_loopw [0, 3] (fun n s wr => ∃ (f n' : Nat) (done : List UInt8), n = .int .u64 n' ∧ n' < 18446744073709551616 ∧ Hid (n' < 128 ^ (f + 1)) ∧ Hid (vput 9 v = done ++ vput f n') ∧ Hid (done.length + f = 9) ∧ wr.ownsRow w.heap.size 5 1 s done.length (U8 done) ∧ Hid (Grow w wr)) (fun n _ _ => (intOf n).toNat)
  case atStart => exact ⟨9, v, [], rfl, hv, lt128 hv, rfl, rfl, World.ownsRow_nil _ _ _ _, Grow.refl _⟩
  case round =>
    obtain ⟨f, n, done, rfl, hn, hnf, hvp, hdl, hown, hg⟩ := hrel
    have hd9 : done.length ≤ 9 := by have := hdl.out; omega
    by_cases hlt : n < 128
    · go_wp2_with (at_builtin; refine wpList_new rfl _ _ rfl el_u8 hown rfl 1 _ rfl (by decide) rfl (by simp [Value.oneCell']) (by omega) hg.out ⟨Nat.le_refl _, hg.out.size⟩ ?_; intro v1 w1 hown1 hg1 hgr1 hb1; have HG1 := Lib.hid hg1; clear hg1 hgr1 hb1)
      have e1 : vput 9 v = done ++ [UInt8.ofNat n] := by rw [hvp.out, vput_one hlt]
      refine hR _ _ (own_eq hown1 (by rw [e1]; simp) ?_) HG1.out
      rw [e1, U8_app, U8_byte n (by omega)]
    · go_wp2_with (at_builtin; refine wpList_new rfl _ _ rfl el_u8 hown rfl 1 _ rfl (by decide) rfl (by simp [Value.oneCell']) (by omega) hg.out ⟨Nat.le_refl _, hg.out.size⟩ ?_; intro v1 w1 hown1 hg1 hgr1 hb1; have HG1 := Lib.hid hg1; clear hg1 hgr1 hb1)
      go_roundw
      case rel =>
        have hf : f ≠ 0 := by
          rintro rfl
          have := hnf.out
          simp at this
          omega
        obtain ⟨f, rfl⟩ := Nat.exists_eq_succ_of_ne_zero hf
        refine ⟨f, n / 128, done ++ [UInt8.ofNat (n % 128 + 128)], by go_num, by omega, ?_, ?_, ?_, own_eq hown1 (by simp) ?_, HG1⟩
        · show n / 128 < 128 ^ (f + 1)
          have := hnf.out
          rw [Nat.pow_succ] at this
          omega
        · show _ = _
          rw [hvp.out, vput_more hlt, List.append_assoc]
          rfl
        · show _ = _
          have := hdl.out
          simp
          omega
        · rw [U8_app, U8_byte _ (by omega)]
          simp
      case measure => simp [intOf]; omega

set_option maxRecDepth 100000 in
set_option maxHeartbeats 1000000 in
theorem clone_any (l : List UInt8) (v : Value) (S : Nat → Prop) (w : World) (hb : Rd w S 1 v l.length (U8 l)) (hl : l.length ≤ 10000000000000) {R : Ending → World → Prop}
    (hR : ∀ r w', w'.ownsRow w.heap.size 5 1 r l.length (U8 l) → Grow w w' → R (.returned r) w') :
    Calls Tryd.prog 61 #[v] w R := by
  have HB := Lib.hid hb
  obtain ⟨_, A, c, rfl, h1, h2, h3, h4⟩ := hb
  rcases A with _ | a
  · have hne := fun w => Lib.run_eql_slice_nil (P := Tryd.prog) w 25 5 none 0 0 0 0 Tryd.underlying25
    obtain rfl : c = 0 := h3 rfl
    obtain rfl : l = [] := List.eq_nil_of_length_eq_zero (by omega)
    clear h4 h2 h3
    go_enter Tryd.func61, Tryd.ntmps61
    go_wp2
    exact hR _ _ (World.ownsRow_nil _ _ _ _) (Grow.refl _)
  · have hne := fun w => Lib.run_eql_slice_nil (P := Tryd.prog) w 25 5 (some a) l.length c 0 0 Tryd.underlying25
    clear h3 h4 h2
    have hrow := Lib.hid (World.ownsRow_lit (base := w.heap.size) (e := 5) (size := 1) w #[] 0 (Nat.le_refl _) (by decide) rfl)
    go_enter Tryd.func61, Tryd.ntmps61
    go_wp2_with (at_builtin; refine wpList_app rfl _ _ rfl el_u8 hrow.out rfl (HB.out.al (by decide) _) rfl (U8_one _) (by omega) (by simp) ?_; intro v1 w1 hown1 hgr1 hb1)
    exact hR _ _ (own_eq hown1 (by simp) (by simp)) (grow_app ((Grow.refl w).al _) hgr1 (own_ge hrow.out))

theorem or128 (x : Nat) : bits .or .u8 ((x : Int) % 256) 128 = ((x % 128 + 128 : Nat) : Int) := by
  rw [show (x : Int) % 256 = ((x % 256 : Nat) : Int) by omega]
  have h := u8_or_nat (x % 256) 128 (by omega) (by decide)
  refine h.trans ?_
  have h2 : x % 256 = 128 * (x % 256 / 128) + x % 128 := by omega
  have h3 : x % 256 / 128 = 0 ∨ x % 256 / 128 = 1 := by omega
  rcases h3 with h3 | h3
  · rw [h3] at h2
    rw [h2, Nat.mul_zero, Nat.zero_add, Nat.or_comm]
    have := Nat.two_pow_add_eq_or_of_lt (i := 7) (b := x % 128) (by omega) 1
    rw [show 2 ^ 7 * 1 = 128 from rfl] at this
    rw [← this]
    omega
  · rw [h3] at h2
    have := Nat.two_pow_add_eq_or_of_lt (i := 7) (b := x % 128) (by omega) 1
    rw [show 2 ^ 7 * 1 = 128 from rfl] at this
    rw [h2, Nat.mul_one, this, Nat.or_comm (128 ||| x % 128), ← Nat.or_assoc, Nat.or_self, ← this]
    omega

set_option maxRecDepth 100000 in
set_option maxHeartbeats 1000000 in
theorem putVarint_any (l : List UInt8) (b : Value) (v : Nat) (S : Nat → Prop) (w : World) (hb : Rd w S 1 b l.length (U8 l)) (hl : l.length ≤ 9000000000000) (hv : v < 18446744073709551616) {R : Ending → World → Prop}
    (hR : ∀ r w', w'.ownsRow w.heap.size 5 1 r (l ++ vput 9 v).length (U8 (l ++ vput 9 v)) → Grow w w' → R (.returned r) w') :
    Calls Tryd.prog 39 #[b, .int .u64 v] w R := by
  go_enter Tryd.func39, Tryd.ntmps39
  go_wp2_with (go_at_call 61; refine clone_any l _ S _ hb (by omega) ?_; intro r1 w1 hown1 hg1)
  go_loopw [1, 0] (fun n s wr => ∃ (f n' : Nat) (done : List UInt8), n = .int .u64 n' ∧ n' < 18446744073709551616 ∧ Hid (n' < 128 ^ (f + 1)) ∧ Hid (l ++ vput 9 v = done ++ vput f n') ∧ Hid (done.length + f = l.length + 9) ∧ wr.ownsRow w.heap.size 5 1 s done.length (U8 done) ∧ Hid (Grow w wr)) (fun n _ _ => (intOf n).toNat)
  case atStart => exact ⟨9, v, l, rfl, hv, lt128 hv, rfl, rfl, hown1, hg1⟩
  case round =>
    clear hown1 hg1
    obtain ⟨f, n, done, rfl, hn, hnf, hvp, hdl, hown, hg⟩ := hrel
    have hd9 : done.length ≤ 9000000000009 := by have := hdl.out; omega
    by_cases hlt : n < 128
    · go_wp2_with (at_builtin; refine wpList_new rfl _ _ rfl el_u8 hown rfl 1 _ rfl (by decide) rfl (by simp [Value.oneCell']) (by omega) hg.out ⟨Nat.le_refl _, hg.out.size⟩ ?_; intro v1 w1 hown1 hg1 hgr1 hb1; have HG1 := Lib.hid hg1; clear hg1 hgr1 hb1)
      have e1 : l ++ vput 9 v = done ++ [UInt8.ofNat n] := by rw [hvp.out, vput_one hlt]
      refine hR _ _ (own_eq hown1 (by rw [e1]; simp) ?_) HG1.out
      rw [e1, U8_app, U8_byte n (by omega)]
    · go_wp2_with (at_builtin; refine wpList_new rfl _ _ rfl el_u8 hown rfl 1 _ rfl (by decide) rfl (by simp [Value.oneCell']) (by omega) hg.out ⟨Nat.le_refl _, hg.out.size⟩ ?_; intro v1 w1 hown1 hg1 hgr1 hb1; have HG1 := Lib.hid hg1; clear hg1 hgr1 hb1)
      go_roundw
      case rel =>
        have hf : f ≠ 0 := by
          rintro rfl
          have := hnf.out
          simp at this
          omega
        obtain ⟨f, rfl⟩ := Nat.exists_eq_succ_of_ne_zero hf
        refine ⟨f, n / 128, done ++ [UInt8.ofNat (n % 128 + 128)], by go_num, by omega, ?_, ?_, ?_, own_eq hown1 (by simp) ?_, HG1⟩
        · show n / 128 < 128 ^ (f + 1)
          have := hnf.out
          rw [Nat.pow_succ] at this
          omega
        · show _ = _
          rw [hvp.out, vput_more hlt, List.append_assoc]
          rfl
        · show _ = _
          have := hdl.out
          simp
          omega
        · rw [U8_app, U8_byte _ (by omega), or128]
      case measure => simp [intOf]; omega
theorem rbytes_at (v : Nat) {x : Int} (w : World) (hx : x = v) (hv : v < 18446744073709551616) {R : Ending → World → Prop}
    (hR : ∀ r w', w'.ownsRow w.heap.size 5 1 r (vput 9 v).length (U8 (vput 9 v)) → Grow w w' → R (.returned r) w') :
    Calls Tryd.prog 52 #[.int .u64 x] w R := by
  subst hx
  exact rbytes_any v w hv hR

end Go.Proofs.YtjalimkajcjapaaDoor

namespace Go.Proofs.YtjalimkajcjapaaDoor
open Go.RowKit

/-- a number as k bytes, the lowest first -/
def le (k v : Nat) : List UInt8 := (List.range k).map fun i => UInt8.ofNat (v / 256 ^ i % 256)
theorem le_succ (k v : Nat) : le (k + 1) v = le k v ++ [UInt8.ofNat (v / 256 ^ k % 256)] := by simp [le, List.range_succ]
theorem le_len (k v : Nat) : (le k v).length = k := by simp [le]
theorem pow256 (i : Nat) : (2 : Int) ^ (8 * i) = ((256 ^ i : Nat) : Int) := by rw [Int.pow_mul]; simp

theorem shift8 (v i : Nat) (m : Int) (hm : m = 2 ^ (8 * i)) : ((v : Int) / m) % 256 = ((v / 256 ^ i % 256 : Nat) : Int) := by
  rw [hm, pow256]
  simp

set_option maxRecDepth 100000 in
set_option maxHeartbeats 1000000 in
theorem fixed_any (b : Value) (base n : Nat) (xs : List Value) (v k : Nat) (w0 w : World) (hown : w.ownsRow base 5 1 b n xs) (hg : Grow w0 w) (hbase : w0.heap.size ≤ base ∧ base ≤ w.heap.size) (hn : n ≤ 10000000000000) (hk : k ≤ 8) {kk : Int} (hkk : kk = k)
    {R : Ending → World → Prop} (hR : ∀ r w', w'.ownsRow base 5 1 r (n + k) (xs ++ U8 (le k v)) → Grow w0 w' → R (.returned r) w') :
    Calls Tryd.prog 40 #[b, .int .u64 v, .int .i64 kk] w R := by
  subst hkk
  have HG := Lib.hid hg
  clear hg
  go_enter Tryd.func40, Tryd.ntmps40
  go_wp2
  go_loopw [9, 0] (fun i s wr => ∃ i' : Nat, i' ≤ k ∧ i = .int .i64 i' ∧ wr.ownsRow base 5 1 s (n + i') (xs ++ U8 (le i' v)) ∧ base ≤ wr.heap.size ∧ Hid (Grow w0 wr)) (fun i _ _ => k - (intOf i).toNat)
  case atStart => exact ⟨0, Nat.zero_le _, rfl, own_eq hown (by simp) (by simp [le, U8]), hbase.2, HG⟩
  case round =>
    obtain ⟨hbase, hb2⟩ := hbase
    clear hown hb2 HG
    obtain ⟨i, hi, rfl, hown, hbw, hg⟩ := hrel
    by_cases hlt : i < k
    · go_wp2_with (at_builtin; refine wpList_new rfl _ _ rfl el_u8 hown rfl 1 _ rfl (by decide) rfl (by simp [Value.oneCell']) (by omega) hg.out ⟨hbase, hbw⟩ ?_; intro v1 w1 hown1 hg1 hgr1 hb1; have HG1 := Lib.hid hg1; have hbw1 := Nat.le_trans hbw hgr1.size; clear hg1 hgr1 hb1)
      go_roundw
      case rel =>
        refine ⟨i + 1, by omega, by go_num, own_eq hown1 (by omega) ?_, hbw1, HG1⟩
        rw [le_succ, U8_app, U8_byte _ (by omega), ← List.append_assoc]
        rw [shift8 v i _ rfl]
      case measure => simp [intOf]; omega
    · obtain rfl : i = k := by omega
      go_wp2
      exact hR _ _ hown hg.out

set_option maxRecDepth 100000 in
set_option maxHeartbeats 1000000 in
theorem rfixed_any (v k : Nat) (w : World) (hk : k ≤ 8) (hv : v < 18446744073709551616) {kk : Int} (hkk : kk = k)
    {R : Ending → World → Prop} (hR : ∀ r w', w'.ownsRow w.heap.size 5 1 r k (U8 (le k v)) → Grow w w' → R (.returned r) w') :
    Calls Tryd.prog 54 #[.int .u64 v, .int .i64 kk] w R := by
  subst hkk
  go_enter Tryd.func54, Tryd.ntmps54
  go_wp2
  go_loopw [6, 5, 0] (fun i s u wr => ∃ i' : Nat, i' ≤ k ∧ i = .int .i64 i' ∧ u = .int .u64 ((v / 256 ^ i' : Nat) : Int) ∧ wr.ownsRow w.heap.size 5 1 s i' (U8 (le i' v)) ∧ Hid (Grow w wr)) (fun i _ _ _ => k - (intOf i).toNat)
  case atStart => exact ⟨0, Nat.zero_le _, rfl, by simp, World.ownsRow_nil _ _ _ _, Grow.refl _⟩
  case round =>
    obtain ⟨i, hi, rfl, rfl, hown, hg⟩ := hrel
    by_cases hlt : i < k
    · have hx : v / 256 ^ i ≤ v := Nat.div_le_self _ _
      generalize hX : v / 256 ^ i = x at *
      have HX := Lib.hid hX
      clear hX
      go_wp2_with (at_builtin; refine wpList_new rfl _ _ rfl el_u8 hown rfl 1 _ rfl (by decide) rfl (by simp [Value.oneCell']) (by omega) hg.out ⟨Nat.le_refl _, hg.out.size⟩ ?_; intro v1 w1 hown1 hg1 hgr1 hb1; have HG1 := Lib.hid hg1; clear hg1 hgr1 hb1)
      go_roundw
      case rel =>
        refine ⟨i + 1, by omega, by go_num, ?_, own_eq hown1 rfl ?_, HG1⟩
        · rw [← HX.out, Nat.pow_succ, ← Nat.div_div_eq_div_mul]; simp
        rw [le_succ, U8_app, U8_byte _ (by omega), HX.out]
        rfl
      case measure => simp [intOf]; omega
    · obtain rfl : i = k := by omega
      go_wp2
      exact hR _ _ hown hg.out
end Go.Proofs.YtjalimkajcjapaaDoor

namespace Go.Proofs.YtjalimkajcjapaaDoor
open Go.RowKit Go.Lib

/-- a number of bytes, the lowest first -/
def lowN : List UInt8 → Nat
  | [] => 0
  | b :: t => b.toNat + 256 * lowN t
theorem lowN_app : ∀ a b : List UInt8, lowN (a ++ b) = lowN a + 256 ^ a.length * lowN b
  | [], b => by simp [lowN]
  | x :: a, b => by
    simp only [List.cons_append, lowN, lowN_app a b, List.length_cons, Nat.pow_succ]
    rw [Nat.mul_add, ← Nat.mul_assoc, Nat.mul_comm 256 (256 ^ a.length)]; omega
theorem lowN_lt : ∀ a : List UInt8, lowN a < 256 ^ a.length
  | [] => by decide
  | x :: a => by
    have := lowN_lt a
    have hx := x.toNat_lt
    simp only [lowN, List.length_cons, Nat.pow_succ]
    omega
theorem lowN_succ {l : List UInt8} {k : Nat} (hk : k < l.length) : lowN (l.take (k + 1)) = lowN (l.take k) + 256 ^ k * l[k].toNat := by
  rw [List.take_succ_eq_append_getElem hk, lowN_app]
  simp [lowN, Nat.min_eq_left (Nat.le_of_lt hk)]
theorem lowN_tlt {l : List UInt8} {k : Nat} (hk : k ≤ l.length) : lowN (l.take k) < 256 ^ k := by
  have := lowN_lt (l.take k)
  rwa [List.length_take, Nat.min_eq_left hk] at this
theorem lowN_drop {l : List UInt8} {k : Nat} (hk : k < l.length) : lowN (l.drop k) = l[k].toNat + 256 * lowN (l.drop (k + 1)) := by
  rw [List.drop_eq_getElem_cons hk]; rfl
theorem lowN_64 {l : List UInt8} (h : l.length ≤ 8) : lowN l < 18446744073709551616 := by
  have h1 := lowN_lt l
  have h2 : 256 ^ l.length ≤ 256 ^ 8 := Nat.pow_le_pow_right (by decide) h
  have e : 256 ^ 8 = 18446744073709551616 := by decide
  omega
theorem vor8 (a x i : Nat) (m : Int) (hm : m = 2 ^ (8 * i)) (ha : a < 256 ^ i) (hi : i < 8) (hx : x < 256) :
    bits .or .u64 (a : Int) (IntKind.u64.wrap ((x : Int) * m)) = ((a + 256 ^ i * x : Nat) : Int) := by
  have h64 : x * 256 ^ i + 256 ^ i ≤ 18446744073709551616 := by
    have h : (x + 1) * 256 ^ i ≤ 256 * 256 ^ i := Nat.mul_le_mul_right _ (by omega)
    have h1 : 256 ^ (i + 1) ≤ 256 ^ 8 := Nat.pow_le_pow_right (by decide) (by omega)
    have e : 256 ^ 8 = 18446744073709551616 := by decide
    rw [Nat.pow_succ, Nat.mul_comm (256 ^ i) 256] at h1
    rw [Nat.add_mul] at h
    omega
  rw [IntKind.wrap_u64]
  have e2 : m = ((256 ^ i : Nat) : Int) := by rw [hm, pow256]
  rw [e2, ← Int.natCast_mul]
  have e3 : ((x * 256 ^ i : Nat) : Int) % 18446744073709551616 = ((x * 256 ^ i : Nat) : Int) := by omega
  have p256 : 256 ^ i = 2 ^ (8 * i) := by rw [Nat.pow_mul]
  rw [e3, bits_or_u64_nat _ _ (by omega) (by omega), Nat.or_comm]
  have h := Nat.two_pow_add_eq_or_of_lt (i := 8 * i) (b := a) (by rw [← p256]; exact ha) x
  rw [← p256, Nat.mul_comm (256 ^ i)] at h
  rw [← h, Nat.add_comm, Nat.mul_comm x]

set_option maxRecDepth 100000 in
set_option maxHeartbeats 1000000 in
theorem low_any (l : List UInt8) (v : Value) (S : Nat → Prop) (w : World) (hb : Rd w S 1 v l.length (U8 l)) (hl : l.length ≤ 8) {R : Ending → World → Prop} (hR : R (.returned (.int .u64 (lowN l))) w) :
    Calls Tryd.prog 66 #[v] w R := by
  have HR := Lib.hid hR
  clear hR
  obtain ⟨_, A, c, rfl, h1, h2, h3, h4⟩ := hb
  unfold maxLen at h2
  go_enter Tryd.func66, Tryd.ntmps66
  go_wp2
  go_loopw [8, 3] (fun i s wr => ∃ (k a : Nat), k ≤ l.length ∧ i = .int .i64 k ∧ s = .int .u64 a ∧ Hid (a = lowN (l.take k)) ∧ wr = w) (fun i _ _ => l.length - (intOf i).toNat)
  case atStart => exact ⟨0, 0, Nat.zero_le _, rfl, rfl, rfl, rfl⟩
  case round =>
    obtain ⟨k, a, hk, rfl, rfl, ha, rfl⟩ := hrel
    by_cases hlt : k < l.length
    · obtain ⟨b, o, rfl, _, hc⟩ := h4 (by omega)
      have c1 := hc k _ (U8_at l k hlt)
      have hx : (l[k]'hlt).toNat < 256 := (l[k]'hlt).toNat_lt
      have HS := Lib.hid (lowN_succ hlt)
      have HL := Lib.hid (lowN_tlt hk)
      generalize (l[k]'hlt).toNat = x at *
      have HV := Lib.hid (fun m hm => vor8 a x k m hm (by rw [ha.out]; exact HL.out) (by omega) hx)
      clear hc h4 h3
      go_wp2
      go_roundw
      case rel => exact ⟨k + 1, a + 256 ^ k * x, by omega, by go_num, by rw [HV.out _ rfl], by show _ = _; rw [HS.out, ha.out], by first | rfl | trivial⟩
      case measure => simp [intOf]; omega
    · obtain rfl : k = l.length := by omega
      have h := HR.out
      rw [show lowN l = a by rw [ha.out, List.take_length]] at h
      go_wp2
      exact h

end Go.Proofs.YtjalimkajcjapaaDoor

namespace Go.Proofs.YtjalimkajcjapaaDoor

theorem vgo_ok (b : List UInt8) (k : Nat) : ∀ (f i a : Nat) (v nx : Int), vgo b k f i a = (v, nx, 0) → 0 ≤ v ∧ (k : Int) + i + 1 ≤ nx ∧ nx ≤ b.length := by
  intro f
  induction f with
  | zero => intro i a v nx h; simp [vgo] at h
  | succ f ih =>
    intro i a v nx h
    rcases Nat.lt_or_ge (k + i) b.length with hlt | hge
    · by_cases h9 : i = 9 ∧ 1 < b[k + i].toNat
      · rw [vgo_form hlt rfl h9] at h; simp at h
      · by_cases hl : b[k + i].toNat < 128
        · rw [vgo_done hlt rfl h9 hl] at h
          simp only [Prod.mk.injEq] at h
          omega
        · rw [vgo_more hlt rfl h9 hl] at h
          have := ih _ _ _ _ h
          omega
    · rw [vgo_short hge] at h; simp at h

theorem varint_ok {b : List UInt8} {k v nx : Int} (h : varint b k = (v, nx, 0)) : 0 ≤ v ∧ 0 ≤ k ∧ k + 1 ≤ nx ∧ nx ≤ b.length := by
  unfold varint at h
  split at h
  · simp at h
  · have := vgo_ok b _ _ _ _ _ _ h
    omega

/-- an error's number -/
theorem vgo_err (b : List UInt8) (k : Nat) : ∀ (f i a : Nat), (vgo b k f i a).2.2 = 0 ∨ (vgo b k f i a) = (0, 0, 2) ∨ (vgo b k f i a) = (0, 0, 3) := by
  intro f
  induction f with
  | zero => intro i a; simp [vgo]
  | succ f ih =>
    intro i a
    rcases Nat.lt_or_ge (k + i) b.length with hlt | hge
    · by_cases h9 : i = 9 ∧ 1 < b[k + i].toNat
      · rw [vgo_form hlt rfl h9]; simp
      · by_cases hl : b[k + i].toNat < 128
        · rw [vgo_done hlt rfl h9 hl]; simp
        · rw [vgo_more hlt rfl h9 hl]; exact ih _ _
    · rw [vgo_short hge]; simp

def pack (l : List Int) : List UInt8 := l.flatMap fun v => vput 9 v.toNat

theorem pack_len : ∀ l : List Int, (pack l).length ≤ l.length * 10
  | [] => by simp [pack]
  | x :: l => by
    have h1 := vput_len 9 x.toNat
    have h2 := pack_len l
    have hp : pack (x :: l) = vput 9 x.toNat ++ pack l := rfl
    rw [hp, List.length_append, List.length_cons]
    omega

def unpGo (b : List UInt8) : Nat → Int → List Int → List Int × Int
  | 0, _, acc => (acc, 0)
  | f + 1, k, acc =>
    if (b.length : Int) ≤ k then (acc, 0)
    else if (varint b k).2.2 ≠ 0 then ([], (varint b k).2.2)
    else if 4294967295 < (varint b k).1 then ([], 3)
    else unpGo b f (varint b k).2.1 (acc ++ [(varint b k).1])
def unpack (b : List UInt8) : List Int × Int := unpGo b (b.length + 1) 0 []

theorem unpGo_end {b : List UInt8} {f : Nat} {k : Int} {acc : List Int} (h : (b.length : Int) ≤ k) : unpGo b f k acc = (acc, 0) := by
  cases f with
  | zero => rfl
  | succ f => simp [unpGo, h]
theorem unpGo_err {b : List UInt8} {f : Nat} {k v nx e : Int} {acc : List Int} (h : ¬ (b.length : Int) ≤ k) (hv : varint b k = (v, nx, e)) (he : e ≠ 0) : unpGo b (f + 1) k acc = ([], e) := by
  simp [unpGo, h, hv, he]
theorem unpGo_big {b : List UInt8} {f : Nat} {k v nx : Int} {acc : List Int} (h : ¬ (b.length : Int) ≤ k) (hv : varint b k = (v, nx, 0)) (he : 4294967295 < v) : unpGo b (f + 1) k acc = ([], 3) := by
  simp [unpGo, h, hv, he]
theorem unpGo_more {b : List UInt8} {f : Nat} {k v nx : Int} {acc : List Int} (h : ¬ (b.length : Int) ≤ k) (hv : varint b k = (v, nx, 0)) (he : ¬ 4294967295 < v) : unpGo b (f + 1) k acc = unpGo b f nx (acc ++ [v]) := by
  simp [unpGo, h, hv, he]

theorem unpGo_pack : ∀ (l : List Int) (d : List UInt8) (acc : List Int) (f : Nat), (∀ v ∈ l, 0 ≤ v ∧ v ≤ 4294967295) → (pack l).length < f → unpGo (d ++ pack l) f d.length acc = (acc ++ l, 0)
  | [], d, acc, f, _, _ => by rw [unpGo_end (by simp [pack])]; simp
  | v :: l, d, acc, f, hl, hf => by
    have hv := hl v (by simp)
    obtain ⟨h1, h2⟩ := vput_len 9 v.toNat
    have hp : pack (v :: l) = vput 9 v.toNat ++ pack l := rfl
    rw [hp, List.length_append] at hf
    obtain ⟨f, rfl⟩ := Nat.exists_eq_succ_of_ne_zero (show f ≠ 0 by omega)
    have hvar := varint_vput d (pack l) v.toNat (by omega)
    rw [hp, unpGo_more (by simp only [List.length_append]; omega) hvar (by omega)]
    have ih := unpGo_pack l (d ++ vput 9 v.toNat) (acc ++ [v]) f (fun x hx => hl x (by simp [hx])) (by omega)
    rw [List.append_assoc, List.length_append] at ih
    rw [show ((v.toNat : Nat) : Int) = v by omega, ih]
    simp

theorem unpack_pack (l : List Int) (hl : ∀ v ∈ l, 0 ≤ v ∧ v ≤ 4294967295) : unpack (pack l) = (l, 0) := by
  have := unpGo_pack l [] [] ((pack l).length + 1) hl (by omega)
  simpa [unpack] using this
end Go.Proofs.YtjalimkajcjapaaDoor

namespace Go.Proofs.YtjalimkajcjapaaDoor
open Go.RowKit

/-- a field: what it holds; and the slice value in which its bytes lie -/
structure Fld where
  num : Int
  kind : Int
  int : Nat
  data : List UInt8
  dv : Value

def Fld.cells (f : Fld) : List Value := [.int .i64 f.num, .int .i64 f.kind, .int .u64 f.int, f.dv]
theorem Fld.cells_len (f : Fld) : f.cells.length = 4 := rfl

def Fld.ok (w : World) (S : Nat → Prop) (f : Fld) : Prop := I64 f.num ∧ I64 f.kind ∧ f.int < 18446744073709551616 ∧ Rd w S 1 f.dv f.data.length (U8 f.data)

/-- fields that came in -/
def Flds (w : World) (S : Nat → Prop) (v : Value) (l : List Fld) : Prop := Rd w S 4 v l.length (l.flatMap Fld.cells) ∧ ∀ f ∈ l, f.ok w S

/-- one field's bytes -/
def fhead (f : Fld) : Nat := (f.num % 536870912 * 8 + f.kind % 8).toNat
def fput (f : Fld) : List UInt8 :=
  if f.kind = 0 then vput 9 (fhead f) ++ vput 9 f.int
  else if f.kind = 1 then vput 9 (fhead f) ++ le 8 f.int
  else if f.kind = 5 then vput 9 (fhead f) ++ le 4 f.int
  else if f.kind = 2 then vput 9 (fhead f) ++ (vput 9 f.data.length ++ f.data)
  else []

theorem take_snoc {α : Type} (l : List α) (k : Nat) (h : k < l.length) : l.take (k + 1) = l.take k ++ [l[k]] := by
  rw [List.take_succ_eq_append_getElem h]

set_option maxRecDepth 100000 in
set_option maxHeartbeats 1000000 in
theorem put_anyD (D : Nat) (fs : List Fld) (v : Value) (S : Nat → Prop) (w : World) (hf : Flds w S v fs) (hn : fs.length * (D + 40) ≤ 1000000000000) (hd : ∀ f ∈ fs, f.data.length ≤ D)
    {R : Ending → World → Prop} (hR : ∀ r w', w'.ownsRow w.heap.size 5 1 r (fs.flatMap fput).length (U8 (fs.flatMap fput)) → Grow w w' → R (.returned r) w') :
    Calls Tryd.prog 18 #[v] w R := by
  obtain ⟨Bd, hB0, hBs, hBm⟩ : ∃ B : Nat → Nat, B 0 = 0 ∧ (∀ i, i < fs.length → B (i + 1) = B i + (D + 40)) ∧ ∀ i, i ≤ fs.length → B i ≤ 1000000000000 :=
    ⟨fun i => i * (D + 40), by simp, fun i _ => Nat.succ_mul i (D + 40), fun i hi => Nat.le_trans (Nat.mul_le_mul_right _ hi) hn⟩
  clear hn
  have hf1 := hf.1.lt (by decide)
  have hok := hf.2
  clear hf
  obtain ⟨_, A, c, rfl, h1, h2, h3, h4⟩ := hf1
  unfold maxLen at h2
  go_enter Tryd.func18, Tryd.ntmps18
  go_wp2
  go_loopw [9, 3] (fun i s wr => ∃ i' : Nat, i' ≤ fs.length ∧ i = .int .i64 i' ∧ ∃ m : Nat, m ≤ Bd i' ∧ wr.ownsRow w.heap.size 5 1 s m (U8 ((fs.take i').flatMap fput)) ∧ Hid (Grow w wr)) (fun i _ _ => fs.length - (intOf i).toNat)
  case atStart => exact ⟨0, Nat.zero_le _, rfl, 0, by omega, World.ownsRow_nil _ _ _ _, Grow.refl _⟩
  case round =>
    obtain ⟨i, hi, rfl, m, hm, hown, hg⟩ := hrel
    by_cases hlt : i < fs.length
    · obtain ⟨b, o, rfl, hS, hc⟩ := h4 (by omega)
      have hfo := hok fs[i] (List.getElem_mem hlt)
      have hdl := hd fs[i] (List.getElem_mem hlt)
      have hb0 := hBm i (by omega)
      have hb1' := hBm (i + 1) (by omega)
      have hb2' := hBs i hlt
      clear hBm hBs
      have hcc := flat_cells Fld.cells_len hg.out hS hc hlt
      have HT := Lib.hid (take_snoc fs i hlt)
      clear hc h4 h3 hok hd
      generalize hF : fs[i] = f at *
      clear hF
      obtain ⟨num, kind, int, data, dv⟩ := f
      obtain ⟨hf1, hf2, hf3, hf4⟩ := hfo
      have HD := Lib.hid (hf4.gr (by decide) hg.out)
      obtain ⟨_, A2, cap2, hdv, _, hcap2, _, _⟩ := hf4
      dsimp only at hdv hf1 hf2 hf3 hdl
      subst hdv
      have c0 := hcc 0 _ rfl
      have c1 := hcc 1 _ rfl
      have c2 := hcc 2 _ rfl
      have c3 := hcc 3 _ rfl
      simp only [Nat.add_zero] at c0
      clear hcc
      unfold maxLen at hcap2
      have hh := head_bits num kind
      have hfh : (num % 536870912 * 8 + kind % 8).toNat < 18446744073709551616 := by omega
      generalize hH : (num % 536870912 * 8 + kind % 8).toNat = hd at *
      generalize hL : (fs.take i).flatMap fput = L at *
      have hmL : m = L.length := by have := hown.1; rw [U8_len, Nat.mul_one] at this; exact this.symm
      subst hmL
      have HO := Lib.hid hown
      have HH := Lib.hid hH
      have HL := Lib.hid hL
      clear hH hL hown
      have hb1 := vput_len 9 hd
      obtain ⟨hb1, hb2⟩ := hb1
      have fin : ∀ (r : Value) (w2 : World) (n : Nat) (bs : List UInt8), fput ⟨num, kind, int, data, .slice A2 data.length cap2⟩ = bs → n = (L ++ bs).length → w2.ownsRow w.heap.size 5 1 r n (U8 (L ++ bs)) → bs.length ≤ D + 40 → Hid (Grow w w2) →
          ∃ m : Nat, m ≤ Bd (i + 1) ∧ w2.ownsRow w.heap.size 5 1 r m (U8 ((fs.take (i + 1)).flatMap fput)) ∧ Hid (Grow w w2) := by
        intro r w2 n bs hbs hn2 hown2 hbl hg2
        refine ⟨n, by rw [hn2, List.length_append]; omega, own_eq hown2 rfl ?_, hg2⟩
        rw [HT.out, List.flatMap_append, HL.out, List.flatMap_cons, hbs]
        simp
      have FIN := Lib.hid fin
      clear fin
      by_cases k0 : kind = 0
      · have t0 : (kind == 0) = true := by simp [k0]
        have K0 := Lib.hid k0
        clear k0
        go_wp2_with fail
        refine putVarint_any L _ hd _ _ ((Rd.own HO.out).al (by decide) _) (by omega) hfh ?_
        intro r1 w1 hown1 hg1
        have b1 := box_at hg1
        have HG1 := Lib.hid hg1
        have HO1 := Lib.hid hown1
        clear hown1 hg1
        go_wp2_with fail
        refine putVarint_any (L ++ vput 9 hd) _ int _ _ (Rd.own HO1.out) (by rw [List.length_append]; omega) hf3 ?_
        intro r2 w2 hown2 hg2
        have HG2 := Lib.hid hg2
        have HO2 := Lib.hid hown2
        clear hown2 hg2 b1
        go_wp2
        go_roundw
        case rel => exact ⟨i + 1, by omega, by go_num, FIN.out _ _ _ (vput 9 hd ++ vput 9 int) (by unfold fput fhead; dsimp only; rw [if_pos K0.out, HH.out]) (by rw [List.append_assoc]) (own_base (own_eq HO2.out rfl (by rw [List.append_assoc])) ((hg.out.al _).tr HG1.out).size) (by have := vput_len 9 int; rw [List.length_append]; omega) (((hg.out.al _).tr HG1.out).tr HG2.out)⟩
        case measure => simp [intOf]; omega
      · have t0 : (kind == 0) = false := by simp [k0]
        have K0 := Lib.hid k0
        clear k0
        by_cases k1 : kind = 1
        · have t1 : (kind == 1) = true := by simp [k1]
          have K1 := Lib.hid k1
          clear k1
          go_wp2_with fail
          refine putVarint_any L _ hd _ _ ((Rd.own HO.out).al (by decide) _) (by omega) hfh ?_
          intro r1 w1 hown1 hg1
          have b1 := box_at hg1
          have HG1 := Lib.hid hg1
          have HO1 := Lib.hid hown1
          clear hown1 hg1
          go_wp2_with fail
          refine fixed_any _ _ _ _ int 8 w _ HO1.out ((hg.out.al _).tr HG1.out) ⟨(hg.out.al _).size, HG1.out.size⟩ (by rw [List.length_append]; omega) (by decide) rfl ?_
          intro r2 w2 hown2 hg2
          have HG2 := Lib.hid hg2
          have HO2 := Lib.hid hown2
          clear hown2 hg2 b1
          go_wp2
          go_roundw
          case rel => exact ⟨i + 1, by omega, by go_num, FIN.out _ _ _ (vput 9 hd ++ le 8 int) (by unfold fput fhead; dsimp only; rw [if_neg K0.out, if_pos K1.out, HH.out]) (by simp [le_len, Nat.add_assoc]) (own_base (own_eq HO2.out rfl (by rw [← U8_app, List.append_assoc])) (hg.out.al _).size) (by rw [List.length_append, le_len]; omega) HG2⟩
          case measure => simp [intOf]; omega
        · have t1 : (kind == 1) = false := by simp [k1]
          have K1 := Lib.hid k1
          clear k1
          by_cases k5 : kind = 5
          · have t5 : (kind == 5) = true := by simp [k5]
            have K5 := Lib.hid k5
            clear k5
            go_wp2_with fail
            refine putVarint_any L _ hd _ _ ((Rd.own HO.out).al (by decide) _) (by omega) hfh ?_
            intro r1 w1 hown1 hg1
            have b1 := box_at hg1
            have HG1 := Lib.hid hg1
            have HO1 := Lib.hid hown1
            clear hown1 hg1
            go_wp2_with fail
            refine fixed_any _ _ _ _ int 4 w _ HO1.out ((hg.out.al _).tr HG1.out) ⟨(hg.out.al _).size, HG1.out.size⟩ (by rw [List.length_append]; omega) (by decide) rfl ?_
            intro r2 w2 hown2 hg2
            have HG2 := Lib.hid hg2
            have HO2 := Lib.hid hown2
            clear hown2 hg2 b1
            go_wp2
            go_roundw
            case rel => exact ⟨i + 1, by omega, by go_num, FIN.out _ _ _ (vput 9 hd ++ le 4 int) (by unfold fput fhead; dsimp only; rw [if_neg K0.out, if_neg K1.out, if_pos K5.out, HH.out]) (by simp [le_len, Nat.add_assoc]) (own_base (own_eq HO2.out rfl (by rw [← U8_app, List.append_assoc])) (hg.out.al _).size) (by rw [List.length_append, le_len]; omega) HG2⟩
            case measure => simp [intOf]; omega
          · have t5 : (kind == 5) = false := by simp [k5]
            have K5 := Lib.hid k5
            clear k5
            by_cases k2 : kind = 2
            · have t2 : (kind == 2) = true := by simp [k2]
              have K2 := Lib.hid k2
              clear k2
              go_wp2_with fail
              refine putVarint_any L _ hd _ _ ((Rd.own HO.out).al (by decide) _) (by omega) hfh ?_
              intro r1 w1 hown1 hg1
              have b1 := box_at hg1
              have HG1 := Lib.hid hg1
              have HO1 := Lib.hid hown1
              clear hown1 hg1
              obtain ⟨hvl0, hvl⟩ := vput_len 9 data.length
              have w64 : IntKind.u64.wrap (data.length : Int) = data.length := IntWalk.u64_in _ (by omega)
              go_wp2_with fail
              go_region_held3 (fun w' => w'.cell? ⟨wr.heap.size, 3, none⟩ = some (.slice A2 data.length cap2))
                (first | (exact (box_at HG1.out 3)) | (exact (box_at (HG1.out.tr (by assumption)) 3)) | skip)
                ((first | (go_at_call 39; refine putVarint_any (L ++ vput 9 hd) _ data.length _ _ (by exact Rd.own HO1.out) (by rw [List.length_append]; omega) (by omega) ?_; intro r2 w2 hown2 hg2; have hg2 := grow_drew hg2) | (refine step_app (by rfl) _ _ (by rfl) el_u8 hown2 (by rfl) (HD.out.grow ((((Grow.refl wr).al _).tr HG1.out).tr hg2 |>.mono hg.out.size)) (by rfl) (U8_one _) (by simp only [List.length_append]; omega) hg2.size ?_; intro v3 w3 hown3 hgr3 hb3; have hg3 : Grow w1 w3 := grow_app hg2 hgr3 (own_ge hown2))))
              clear b1
              have HO3 := Lib.hid hown3
              have HG3 := Lib.hid (HG1.out.tr hg3)
              clear hown3 hg3 hgr3 hb3 hown2 hg2
              go_wp2
              go_roundw
              case rel => exact ⟨i + 1, by omega, by go_num, FIN.out _ _ _ (vput 9 hd ++ (vput 9 data.length ++ data)) (by unfold fput fhead; dsimp only; rw [if_neg K0.out, if_neg K1.out, if_neg K5.out, if_pos K2.out, HH.out]) (by simp [Nat.add_assoc]) (own_base (own_eq HO3.out rfl (by rw [← U8_app, List.append_assoc, List.append_assoc])) ((hg.out.al _).tr HG1.out).size) (by rw [List.length_append, List.length_append]; omega) ((hg.out.al _).tr HG3.out)⟩
              case measure => simp [intOf]; omega
            · have t2 : (kind == 2) = false := by simp [k2]
              have K2 := Lib.hid k2
              clear k2
              go_wp2_with fail
              refine putVarint_any L _ hd _ _ ((Rd.own HO.out).al (by decide) _) (by omega) hfh ?_
              intro r1 w1 hown1 hg1
              have b1 := box_at hg1
              have HG1 := Lib.hid hg1
              clear hown1 hg1
              go_wp2
              go_roundw
              case rel => exact ⟨i + 1, by omega, by go_num, FIN.out _ _ _ [] (by unfold fput fhead; dsimp only; rw [if_neg K0.out, if_neg K1.out, if_neg K5.out, if_neg K2.out]) (by rw [List.append_nil]) (own_eq (own_grow HO.out (grow_al HG1.out)) rfl (by rw [List.append_nil])) (by simp) ((hg.out.al _).tr HG1.out)⟩
              case measure => simp [intOf]; omega
    · obtain rfl : i = fs.length := by omega
      go_wp2
      exact hR _ _ (own_eq hown (by have := hown.1; rw [U8_len, List.take_length] at this; omega) (by rw [List.take_length])) hg.out
theorem put_any (fs : List Fld) (v : Value) (S : Nat → Prop) (w : World) (hf : Flds w S v fs) (hn : fs.length ≤ 400) (hd : ∀ f ∈ fs, f.data.length ≤ 2000)
    {R : Ending → World → Prop} (hR : ∀ r w', w'.ownsRow w.heap.size 5 1 r (fs.flatMap fput).length (U8 (fs.flatMap fput)) → Grow w w' → R (.returned r) w') :
    Calls Tryd.prog 18 #[v] w R := put_anyD 2000 fs v S w hf (by omega) hd hR
end Go.Proofs.YtjalimkajcjapaaDoor

namespace Go.Proofs.YtjalimkajcjapaaDoor

theorem vgo_bd (b : List UInt8) (k : Nat) : ∀ (f i a : Nat) (v nx : Int), i + f = 10 → a < 128 ^ i → vgo b k f i a = (v, nx, 0) → v < 18446744073709551616 ∧ ∃ n : Nat, nx = (k : Int) + i + n ∧ v < 128 ^ (i + n) ∧ 1 ≤ n := by
  intro f
  induction f with
  | zero => intro i a v nx _ _ h; simp [vgo] at h
  | succ f ih =>
    intro i a v nx hif ha h
    rcases Nat.lt_or_ge (k + i) b.length with hlt | hge
    · have hx : b[k + i].toNat < 256 := b[k + i].toNat_lt
      by_cases h9 : i = 9 ∧ 1 < b[k + i].toNat
      · rw [vgo_form hlt rfl h9] at h; simp at h
      · obtain ⟨_, v1, v2⟩ := vor a b[k + i].toNat i _ rfl ha (by omega) hx h9
        by_cases hl : b[k + i].toNat < 128
        · rw [vgo_done hlt rfl h9 hl] at h
          simp only [Prod.mk.injEq] at h
          obtain ⟨rfl, rfl, -⟩ := h
          exact ⟨by omega, 1, by omega, by exact_mod_cast v1, Nat.le_refl _⟩
        · rw [vgo_more hlt rfl h9 hl] at h
          obtain ⟨h1, n, h2, h3, h4⟩ := ih (i + 1) _ v nx (by omega) v1 h
          refine ⟨h1, n + 1, by omega, ?_, by omega⟩
          rw [show i + (n + 1) = i + 1 + n by omega]; exact h3
    · rw [vgo_short hge] at h; simp at h

theorem varint_bd {b : List UInt8} {k v nx : Int} (h : varint b k = (v, nx, 0)) : v < 18446744073709551616 ∧ ∃ n : Nat, nx = k + n ∧ v < 128 ^ n ∧ 1 ≤ n := by
  unfold varint at h
  split at h
  · simp at h
  · obtain ⟨h1, n, h2, h3, h4⟩ := vgo_bd b k.toNat 10 0 0 v nx rfl (by decide) h
    exact ⟨h1, n, by omega, by simpa using h3, h4⟩
theorem varint_err (b : List UInt8) (k : Int) (h : (varint b k).2.2 ≠ 0) : (varint b k).1 = 0 ∧ (varint b k).2.1 = 0 := by
  unfold varint at h ⊢
  split
  · exact ⟨rfl, rfl⟩
  · rename_i h1
    rw [if_neg h1] at h
    rcases vgo_err b k.toNat 10 0 0 with e | e | e
    · exact absurd e h
    · rw [e]; exact ⟨rfl, rfl⟩
    · rw [e]; exact ⟨rfl, rfl⟩
theorem vput_min (f : Nat) : ∀ (v n : Nat), 1 ≤ n → v < 128 ^ n → (vput f v).length ≤ n := by
  induction f with
  | zero => intro v n hn _; simpa [vput] using hn
  | succ f ih =>
    intro v n hn hv
    by_cases h : v < 128
    · rw [vput_one h]; simpa using hn
    · rw [vput_more h, List.length_cons]
      obtain ⟨m, rfl⟩ : ∃ m, n = m + 1 := ⟨n - 1, by omega⟩
      have hm : 1 ≤ m := by
        rcases Nat.eq_zero_or_pos m with rfl | h0
        · simp at hv; omega
        · exact h0
      have : v / 128 < 128 ^ m := by
        rw [Nat.pow_succ] at hv
        exact Nat.div_lt_of_lt_mul (by rw [Nat.mul_comm]; exact hv)
      have := ih (v / 128) m hm this
      omega

structure FD where
  num : Int
  kind : Int
  int : Nat
  data : List UInt8
/-- what is behind a field's head: the number, the bytes, the place behind, the error -/
def bodyS (b : List UInt8) (k kind : Nat) : Nat × List UInt8 × Int × Int :=
  if kind = 0 then ((varint b k).1.toNat, [], (varint b k).2.1, (varint b k).2.2)
  else if kind = 2 then
    (if (varint b k).2.2 ≠ 0 then (0, [], 0, (varint b k).2.2)
     else if (b.length : Int) - (varint b k).2.1 < (varint b k).1 then (0, [], 0, 2)
     else (0, (b.drop (varint b k).2.1.toNat).take (varint b k).1.toNat, (varint b k).2.1 + (varint b k).1, 0))
  else if kind = 1 then (if b.length - k < 8 then (0, [], 0, 2) else (lowN ((b.drop k).take 8), [], ((k + 8 : Nat) : Int), 0))
  else if kind = 5 then (if b.length - k < 4 then (0, [], 0, 2) else (lowN ((b.drop k).take 4), [], ((k + 4 : Nat) : Int), 0))
  else (0, [], 0, 3)
def getGo (b : List UInt8) : Nat → Nat → List FD → List FD × Int
  | 0, _, acc => (acc, 0)
  | f + 1, k, acc =>
    if b.length ≤ k then (acc, 0)
    else if (varint b k).2.2 ≠ 0 then ([], (varint b k).2.2)
    else if (varint b k).1 / 8 < 1 ∨ 536870911 < (varint b k).1 / 8 then ([], 3)
    else
      let r := bodyS b (varint b k).2.1.toNat ((varint b k).1 % 8).toNat
      if r.2.2.2 ≠ 0 then ([], r.2.2.2)
      else getGo b f r.2.2.1.toNat (acc ++ [⟨(varint b k).1 / 8, (varint b k).1 % 8, r.1, r.2.1⟩])
def get (b : List UInt8) : List FD × Int := getGo b (b.length + 1) 0 []

theorem getGo_end {b : List UInt8} {f k : Nat} {acc : List FD} (h : b.length ≤ k) : getGo b f k acc = (acc, 0) := by
  cases f with
  | zero => rfl
  | succ f => rw [getGo, if_pos h]
theorem getGo_err {b : List UInt8} {f k : Nat} {acc : List FD} (h : ¬ b.length ≤ k) (he : (varint b k).2.2 ≠ 0) : getGo b (f + 1) k acc = ([], (varint b k).2.2) := by
  rw [getGo, if_neg h, if_pos he]
theorem getGo_num {b : List UInt8} {f k : Nat} {acc : List FD} (h : ¬ b.length ≤ k) (he : (varint b k).2.2 = 0) (hn : (varint b k).1 / 8 < 1 ∨ 536870911 < (varint b k).1 / 8) : getGo b (f + 1) k acc = ([], 3) := by
  rw [getGo, if_neg h, if_neg (by simp [he]), if_pos hn]
theorem getGo_body {b : List UInt8} {f k : Nat} {acc : List FD} (h : ¬ b.length ≤ k) (he : (varint b k).2.2 = 0) (hn : ¬ ((varint b k).1 / 8 < 1 ∨ 536870911 < (varint b k).1 / 8)) (hb : (bodyS b (varint b k).2.1.toNat ((varint b k).1 % 8).toNat).2.2.2 ≠ 0) :
    getGo b (f + 1) k acc = ([], (bodyS b (varint b k).2.1.toNat ((varint b k).1 % 8).toNat).2.2.2) := by
  rw [getGo, if_neg h, if_neg (by simp [he]), if_neg hn]
  exact if_pos hb
theorem getGo_more {b : List UInt8} {f k : Nat} {acc : List FD} (h : ¬ b.length ≤ k) (he : (varint b k).2.2 = 0) (hn : ¬ ((varint b k).1 / 8 < 1 ∨ 536870911 < (varint b k).1 / 8)) (hb : (bodyS b (varint b k).2.1.toNat ((varint b k).1 % 8).toNat).2.2.2 = 0) :
    getGo b (f + 1) k acc = getGo b f (bodyS b (varint b k).2.1.toNat ((varint b k).1 % 8).toNat).2.2.1.toNat (acc ++ [⟨(varint b k).1 / 8, (varint b k).1 % 8, (bodyS b (varint b k).2.1.toNat ((varint b k).1 % 8).toNat).1, (bodyS b (varint b k).2.1.toNat ((varint b k).1 % 8).toNat).2.1⟩]) := by
  rw [getGo, if_neg h, if_neg (by simp [he]), if_neg hn]
  exact if_neg (by simp [hb])
theorem bodyS_ok {b : List UInt8} {k kind n : Nat} {d : List UInt8} {nx : Int} (hk : k ≤ b.length) (h : bodyS b k kind = (n, d, nx, 0)) : n < 18446744073709551616 ∧ (k : Int) ≤ nx ∧ nx ≤ b.length ∧ d.length ≤ b.length := by
  unfold bodyS at h
  split at h
  · simp only [Prod.mk.injEq] at h
    obtain ⟨rfl, rfl, rfl, he⟩ := h
    have hv : varint b k = ((varint b k).1, (varint b k).2.1, 0) := by rw [← he]
    have h1 := varint_ok hv
    have h2 := varint_bd hv
    exact ⟨by omega, by omega, by omega, by simp⟩
  · split at h
    · split at h
      · simp only [Prod.mk.injEq] at h; rename_i h0 _ h1; exact absurd h.2.2.2 h1
      · rename_i he
        have he : (varint b k).2.2 = 0 := by simpa using he
        have hv : varint b k = ((varint b k).1, (varint b k).2.1, 0) := by rw [← he]
        have h1 := varint_ok hv
        split at h
        · simp at h
        · simp only [Prod.mk.injEq] at h
          obtain ⟨rfl, rfl, rfl, -⟩ := h
          exact ⟨by decide, by omega, by omega, by simp; omega⟩
    · split at h
      · split at h
        · simp at h
        · simp only [Prod.mk.injEq] at h
          obtain ⟨rfl, rfl, rfl, -⟩ := h
          exact ⟨lowN_64 (by simp; omega), by omega, by omega, by simp⟩
      · split at h
        · split at h
          · simp at h
          · simp only [Prod.mk.injEq] at h
            obtain ⟨rfl, rfl, rfl, -⟩ := h
            exact ⟨lowN_64 (by simp; omega), by omega, by omega, by simp⟩
        · simp at h
end Go.Proofs.YtjalimkajcjapaaDoor

namespace Go.Proofs.YtjalimkajcjapaaDoor
open Go.RowKit
theorem ret3 {a b c a' b' c' : Int} (k1 k2 k3 : IntKind) (h1 : a = a') (h2 : b = b') (h3 : c = c') : Ending.returned (.tuple #[.int k1 a, .int k2 b, .int k3 c]) = Ending.returned (.tuple #[.int k1 a', .int k2 b', .int k3 c']) := by rw [h1, h2, h3]
theorem ret_of {r : Int × Int × Int} {a b c : Int} (h : r = (a, b, c)) : Ending.returned (.tuple #[.int .u64 a, .int .i64 b, .int .i64 c]) = Ending.returned (.tuple #[.int .u64 r.1, .int .i64 r.2.1, .int .i64 r.2.2]) := by rw [h]
set_option maxRecDepth 100000 in
set_option maxHeartbeats 1000000 in
theorem varint_any (l : List UInt8) (v : Value) (k : Int) (S : Nat → Prop) (w : World) (hb : Rd w S 1 v l.length (U8 l)) (hl : l.length ≤ 10000000000000) :
    Calls Tryd.prog 45 #[v, .int .i64 k] w fun e w' => e = .returned (.tuple #[.int .u64 (varint l k).1, .int .i64 (varint l k).2.1, .int .i64 (varint l k).2.2]) ∧ w = w' := by
  obtain ⟨_, A, c, rfl, h1, h2, h3, h4⟩ := hb
  unfold maxLen at h2
  by_cases hr : k < 0 ∨ (l.length : Int) < k
  · have hv : varint l k = (0, 0, 8) := by unfold varint; rw [if_pos hr]
    rw [hv]
    clear hv
    by_cases h0 : k < 0
    · have t1 : decide (k < 0) = true := by simp; omega
      clear hr h3 h4
      go_enter Tryd.func45, Tryd.ntmps45
      go_wp2
      go_ret3
      exact ⟨rfl, rfl⟩
    · have t1 : decide (k < 0) = false := by simp; omega
      have t2 : decide ((l.length : Int) < k) = true := by simp; omega
      clear hr h3 h4 h0
      go_enter Tryd.func45, Tryd.ntmps45
      go_wp2
      go_ret3
      exact ⟨rfl, rfl⟩
  · obtain ⟨k, rfl⟩ := Int.eq_ofNat_of_zero_le (show 0 ≤ k by omega)
    have hkl : k ≤ l.length := by omega
    have t1 : decide ((k : Int) < 0) = false := by simp
    have t2 : decide (l.length < k) = false := by simp; omega
    have hv : varint l k = vgo l k 10 0 0 := by unfold varint; rw [if_neg hr]; rfl
    rw [hv]
    clear hv hr
    go_enter Tryd.func45, Tryd.ntmps45
    go_wp2
    go_loop [17, 4] (fun i a => ∃ (i' a' : Nat), i' ≤ 10 ∧ i = .int .i64 i' ∧ a = .int .u64 a' ∧ Hid (a' < 128 ^ i') ∧ Hid (vgo l k 10 0 0 = vgo l k (10 - i') i' a')) (fun i _ => 10 - (intOf i).toNat)
    case atStart => exact ⟨0, 0, by omega, rfl, rfl, by show 0 < 128 ^ 0; decide, rfl⟩
    case round =>
      obtain ⟨i, a, hi, rfl, rfl, ha, hv⟩ := hrel
      by_cases hi10 : i < 10
      · have e10 : 10 - i = (10 - (i + 1)) + 1 := by omega
        have E10 := Lib.hid e10
        clear e10
        by_cases hs : k + i < l.length
        · obtain ⟨b, o, rfl, _, hc⟩ := h4 (by omega)
          have c1 := hc (k + i) _ (U8_at l (k + i) hs)
          have hx : l[k + i].toNat < 256 := l[k + i].toNat_lt
          generalize hX : l[k + i].toNat = x at *
          have HX := Lib.hid hX
          clear hX hc h4 h3
          by_cases h9 : i = 9 ∧ 1 < x
          · have H9 := Lib.hid h9
            obtain ⟨h9a, h9b⟩ := h9
            have t3 : ((i : Int) == 9) = true := by simp; omega
            clear h9a
            go_wp2
            go_ret3
            exact ⟨ret_of (by rw [hv.out, E10.out, vgo_form hs HX.out H9.out]), rfl⟩
          · have vv := fun m hm => vor a x i m hm ha.out hi10 hx h9
            have H9 := Lib.hid h9
            have VV := Lib.hid vv
            clear vv
            by_cases hlt : x < 128
            · go_wp2
              all_goals go_ret3
              all_goals refine ⟨ret_of ?_, rfl⟩
              all_goals rw [hv.out, E10.out, vgo_done hs HX.out H9.out hlt]
              all_goals refine Prod.ext ?_ (Prod.ext ?_ rfl)
              · exact ((VV.out _ (by have : i = 9 := by omega
                                     subst this; decide)).1).symm
              · show ((k + i + 1 : Nat) : Int) = (k : Int) + 9 + 1; omega
              · exact ((VV.out _ rfl).1).symm
              · show ((k + i + 1 : Nat) : Int) = (k : Int) + i + 1; omega
            · go_wp2
              go_round
              case rel => exact ⟨i + 1, a + x % 128 * 128 ^ i, by omega, by go_num, by rw [(VV.out _ rfl).1], (VV.out _ rfl).2.1, by show _ = _; rw [hv.out, E10.out, vgo_more hs HX.out H9.out hlt]⟩
              case measure => simp [intOf]; omega
        · go_wp2
          go_ret3
          exact ⟨ret_of (by rw [hv.out, E10.out, vgo_short (by omega)]), rfl⟩
      · have hie : i = 10 := by omega
        have hv0 : vgo l k 10 0 0 = (0, 0, 3) := by rw [hv.out, hie]; rfl
        have hv := Lib.hid hv0
        clear hie hv0
        go_wp2
        go_ret3
        exact ⟨ret_of hv.out, rfl⟩

end Go.Proofs.YtjalimkajcjapaaDoor

namespace Go.Proofs.YtjalimkajcjapaaDoor
open Go.RowKit Go.Lib

theorem blk_set {W : World} {B : Nat} {cs : Array Value} {t : TypeId} (h : W.heap[B]? = some (.cells cs t (0, 0))) (j : Nat) (v : Value) : (W.setCell ⟨B, j, none⟩ v).heap[B]? = some (.cells (cs.setIfInBounds j v) t (0, 0)) := by
  simp [World.setCell, Array.getElem?_modify, h]
theorem grow_blk {W W' : World} (hg : Grow W W') {B : Nat} {o : Obj} (h : W.heap[B]? = some o) : W'.heap[B]? = some o := (hg.block B (lt_of_block h)).trans h

/-- a part of what is read -/
theorem Rd.sub8 {w : World} {S : Nat → Prop} {A : Option Addr} {c : Nat} {l : List UInt8} (h : Rd w S 1 (.slice A l.length c) l.length (U8 l)) {i m : Nat} (hm : i + m ≤ l.length) :
    Rd w S 1 (.slice (if c = i then A else Option.map (fun x => x.add i) A) m (c - i)) ((l.drop i).take m).length (U8 ((l.drop i).take m)) := by
  obtain ⟨_, A', c', hv, h1, h2, h3, h4⟩ := h
  injection hv with e1 _ e2
  subst e1 e2
  have hlen : ((l.drop i).take m).length = m := by simp; omega
  rw [hlen]
  refine ⟨by rw [U8_len, hlen, Nat.mul_one], _, _, rfl, by omega, by omega, ?_, ?_⟩
  · intro e
    split at e
    · have := h3 e; omega
    · have : A = none := by simpa using e
      have := h3 this; omega
  · intro hn
    obtain ⟨b, o, rfl, hS, hc⟩ := h4 (by omega)
    refine ⟨b, o + i, ?_, hS, ?_⟩
    · rw [if_neg (by omega)]; simp [Addr.add]
    · intro j x hx
      have := hc (i + j) x (by
        have hj : j < m := by
          have := (List.getElem?_eq_some_iff.1 hx).1
          rw [U8_len, hlen] at this; exact this
        rw [← hx]
        simp [U8, hj])
      rw [show o + i + j = o + (i + j) by omega]
      exact this

set_option maxRecDepth 100000 in
set_option maxHeartbeats 2000000 in
theorem body_any (l : List UInt8) (v : Value) (k kind : Nat) (S : Nat → Prop) (w : World) (hb : Rd w S 1 v l.length (U8 l)) (hl : l.length ≤ 10000000000000) (hk : k ≤ l.length) (hkd : kind < 8) {R : Ending → World → Prop}
    (hR : ∀ dv w', Grow w w' → Rd w' (fun b => w.heap.size ≤ b) 1 dv (bodyS l k kind).2.1.length (U8 (bodyS l k kind).2.1) → R (.returned (.tuple #[.agg #[.int .i64 0, .int .i64 0, .int .u64 (bodyS l k kind).1, dv], .int .i64 (bodyS l k kind).2.2.1, .int .i64 (bodyS l k kind).2.2.2])) w') :
    Calls Tryd.prog 46 #[v, .int .i64 k, .int .i64 kind] w R := by
  have hb := hb.lt (by decide)
  have HB := Lib.hid hb
  have HR := Lib.hid hR
  clear hR
  obtain ⟨_, A, c, rfl, h1, h2, h3, h4⟩ := hb
  unfold maxLen at h2
  have HX : Hid ((w.alloc (.cells #[.int .i64 0, .int .i64 0, .int .u64 0, .slice none 0 0] 51)).heap[w.heap.size]? = some (.cells #[.int .i64 0, .int .i64 0, .int .u64 0, .slice none 0 0] 51 (0, 0))) := heap_alloc_new _ _
  have GX : Hid (Grow w (w.alloc (.cells #[.int .i64 0, .int .i64 0, .int .u64 0, .slice none 0 0] 51))) := (Grow.refl w).al _
  have H := Lib.hid fun S W h => varint_any l (.slice A l.length c) k S W h hl
  have HE := Lib.hid (varint_err l k)
  have HK := fun {v nx : Int} => @varint_ok l k v nx
  have HD := fun {v nx : Int} => @varint_bd l k v nx
  by_cases h0 : kind = 0
  · subst h0
    have BS : bodyS l k 0 = ((varint l k).1.toNat, [], (varint l k).2.1, (varint l k).2.2) := by simp [bodyS]
    rw [BS] at HR
    have hp : 0 ≤ (varint l k).1 := by
      by_cases he : (varint l k).2.2 = 0
      · exact (HK (show varint l k = ((varint l k).1, (varint l k).2.1, 0) by rw [← he])).1
      · rw [(HE.out he).1]; exact Int.le_refl _
    clear BS HE HK HD
    generalize varint l k = X at *
    obtain ⟨x, nx, e⟩ := X
    dsimp only at H HR hp
    obtain ⟨x, rfl⟩ := Int.eq_ofNat_of_zero_le hp
    go_enter Tryd.func46, Tryd.ntmps46
    go_wp2_with fail
    refine (H.out _ _ (HB.out.grow GX.out)).mono ?_
    rintro e' w' ⟨rfl, rfl⟩
    go_wp2
    refine bodyPost_ret (v := .tuple #[.agg #[.int .i64 0, .int .i64 0, .int .u64 x, .slice none 0 0], .int .i64 nx, .int .i64 e]) (by simp [results, Tryd.f46, go_sem]) rfl (HR.out _ _ ((Grow.refl w).al _) Rd.nil)
  · have t0 : ((kind : Int) == 0) = false := by rw [beq_eq_false_iff_ne]; omega
    by_cases h2' : kind = 2
    · subst h2'
      by_cases he : (varint l k).2.2 = 0
      · have hv : varint l k = ((varint l k).1, (varint l k).2.1, 0) := by rw [← he]
        obtain ⟨o1, o2, o3, o4⟩ := HK hv
        obtain ⟨o5, -⟩ := HD hv
        by_cases hs : (l.length : Int) - (varint l k).2.1 < (varint l k).1
        · have BS : bodyS l k 2 = (0, [], 0, 2) := by simp [bodyS, he, hs]
          rw [BS] at HR
          rw [he] at H
          clear BS HE HK HD he hv
          generalize varint l k = X at *
          obtain ⟨x, nx, e⟩ := X
          dsimp only at H HR hs o1 o2 o3 o4 o5
          obtain ⟨x, rfl⟩ := Int.eq_ofNat_of_zero_le o1
          obtain ⟨nx, rfl⟩ := Int.eq_ofNat_of_zero_le (show 0 ≤ nx by omega)
          go_enter Tryd.func46, Tryd.ntmps46
          go_wp2_with fail
          refine (H.out _ _ (HB.out.grow GX.out)).mono ?_
          rintro e' w' ⟨rfl, rfl⟩
          go_wp2
          refine bodyPost_ret (v := .tuple #[.agg #[.int .i64 0, .int .i64 0, .int .u64 0, .slice none 0 0], .int .i64 0, .int .i64 2]) (by simp [results, Tryd.f46, go_sem]) rfl (HR.out _ _ ((Grow.refl w).al _) Rd.nil)
        · have BS : bodyS l k 2 = (0, (l.drop (varint l k).2.1.toNat).take (varint l k).1.toNat, (varint l k).2.1 + (varint l k).1, 0) := by simp [bodyS, he, hs]
          rw [BS] at HR
          rw [he] at H
          clear BS HE HK HD he hv
          generalize varint l k = X at *
          obtain ⟨x, nx, e⟩ := X
          dsimp only at H HR hs o1 o2 o3 o4 o5
          obtain ⟨x, rfl⟩ := Int.eq_ofNat_of_zero_le o1
          obtain ⟨nx, rfl⟩ := Int.eq_ofNat_of_zero_le (show 0 ≤ nx by omega)
          have hsn : nx + x ≤ l.length := by omega
          have u1 : IntKind.u64.wrap ((l.length : Int) - nx) = (l.length : Int) - nx := by rw [IntKind.wrap_u64]; omega
          have u2 : decide ((l.length : Int) - nx < x) = false := by simp; omega
          clear hs o1 o2 o3 o4 h3 h4
          go_enter Tryd.func46, Tryd.ntmps46
          go_wp2_with fail
          refine (H.out _ _ (HB.out.grow GX.out)).mono ?_
          rintro e' w' ⟨rfl, rfl⟩
          clear H
          dsimp only
          repeat (first | go_values | go_skip | go_guarded | go_step | go_upon | go_back)
          have hlen : ((l.drop nx).take x).length = x := by simp; omega
          have HSB := Rd.sub8 (HB.out.gr2 (by decide) GX.out) hsn
          simp only [Int.toNat_natCast] at HR
          generalize (l.drop nx).take x = D at *
          generalize (if c = nx then A else Option.map (fun x => x.add nx) A) = A3 at *
          have HSB := Lib.hid HSB
          refine clone_any D _ _ _ (by have := HSB.out; rw [hlen] at this ⊢; exact this) (by omega) ?_
          intro r w2 hown2 hg2
          have HO := Lib.hid hown2
          have G2 := Lib.hid (GX.out.tr hg2)
          have b2 := grow_blk hg2 HX.out
          have c0 := cell_of_row w2 w.heap.size 0 _ _ (0, 0) b2
          have c1 := cell_of_row w2 w.heap.size 1 _ _ (0, 0) b2
          have c2 := cell_of_row w2 w.heap.size 2 _ _ (0, 0) b2
          have c3 := cell_of_row w2 w.heap.size 3 _ _ (0, 0) b2
          have c4 := frozen_of_row w2 w.heap.size 3 _ _ b2
          obtain ⟨A9, c9, rfl⟩ := own_slice hown2
          have b3 := blk_set b2 3 (.slice A9 D.length c9)
          have b4 := blk_set b3 0 (.int .i64 0)
          have b5 := blk_set b4 1 (.int .i64 0)
          have b6 := blk_set b5 2 (.int .u64 0)
          have b7 := blk_set b6 3 (.slice A9 D.length c9)
          have d0 := cell_of_row _ w.heap.size 0 _ _ (0, 0) b3
          have d1 := cell_of_row _ w.heap.size 1 _ _ (0, 0) b3
          have d2 := cell_of_row _ w.heap.size 2 _ _ (0, 0) b3
          have d3 := cell_of_row _ w.heap.size 3 _ _ (0, 0) b3
          have f0 := frozen_of_row _ w.heap.size 0 _ _ b3
          have f1 := frozen_of_row _ w.heap.size 1 _ _ b4
          have f2 := frozen_of_row _ w.heap.size 2 _ _ b5
          have f3 := frozen_of_row _ w.heap.size 3 _ _ b6
          have g1 := cell_of_row _ w.heap.size 1 _ _ (0, 0) b4
          have g2 := cell_of_row _ w.heap.size 2 _ _ (0, 0) b5
          have g3 := cell_of_row _ w.heap.size 3 _ _ (0, 0) b6
          have r0 := cell_of_row _ w.heap.size 0 _ _ (0, 0) b7
          have r1 := cell_of_row _ w.heap.size 1 _ _ (0, 0) b7
          have r2 := cell_of_row _ w.heap.size 2 _ _ (0, 0) b7
          have r3 := cell_of_row _ w.heap.size 3 _ _ (0, 0) b7
          clear b3 b4 b5 b6 b7
          have HLEN := Lib.hid hlen
          clear hown2 hg2 b2 t0 u1 u2 hsn o5 hl hk hkd hlen h1 h2 HB HSB HX
          dsimp only
          go_wp2
          refine bodyPost_ret (v := .tuple #[.agg #[.int .i64 0, .int .i64 0, .int .u64 0, .slice A9 D.length c9], .int .i64 ((nx : Int) + x), .int .i64 0]) (by simp [results, Tryd.f46, go_sem, r0, r1, r2, r3]) rfl (HR.out _ _ ?_ ?_)
          · exact ((((G2.out.set (p := ⟨w.heap.size, 3, none⟩) (Nat.le_refl _) _).set (p := ⟨w.heap.size, 0, none⟩) (Nat.le_refl _) _).set (p := ⟨w.heap.size, 1, none⟩) (Nat.le_refl _) _).set (p := ⟨w.heap.size, 2, none⟩) (Nat.le_refl _) _).set (p := ⟨w.heap.size, 3, none⟩) (Nat.le_refl _) _
          · have hlt : w.heap.size < (w.alloc (.cells #[.int .i64 0, .int .i64 0, .int .u64 0, .slice none 0 0] 51)).heap.size := by rw [World.size_alloc]; omega
            exact (Rd.own_from (ownsRow_setCell_below (ownsRow_setCell_below (ownsRow_setCell_below (ownsRow_setCell_below (ownsRow_setCell_below HO.out (a := ⟨w.heap.size, 3, none⟩) hlt _) (a := ⟨w.heap.size, 0, none⟩) hlt _) (a := ⟨w.heap.size, 1, none⟩) hlt _) (a := ⟨w.heap.size, 2, none⟩) hlt _) (a := ⟨w.heap.size, 3, none⟩) hlt _)).into fun b hb => Nat.le_trans (Nat.le_of_lt hlt) hb
      · have BS : bodyS l k 2 = (0, [], 0, (varint l k).2.2) := by simp [bodyS, he]
        rw [BS] at HR
        obtain ⟨v1, v2⟩ := HE.out he
        rw [v1, v2] at H
        clear BS HE HK HD v1 v2
        have t1 : ((varint l k).2.2 != 0) = true := by simp [he]
        generalize (varint l k).2.2 = e at *
        clear he
        go_enter Tryd.func46, Tryd.ntmps46
        go_wp2_with fail
        refine (H.out _ _ (HB.out.grow GX.out)).mono ?_
        rintro e' w' ⟨rfl, rfl⟩
        go_wp2
        refine bodyPost_ret (v := .tuple #[.agg #[.int .i64 0, .int .i64 0, .int .u64 0, .slice none 0 0], .int .i64 0, .int .i64 e]) (by simp [results, Tryd.f46, go_sem]) rfl (HR.out _ _ ((Grow.refl w).al _) Rd.nil)
    · have t2 : ((kind : Int) == 2) = false := by rw [beq_eq_false_iff_ne]; omega
      clear H HE HK HD
      by_cases h1' : kind = 1
      · subst h1'
        have t3 : ((1 : Int) == 1) = true := by decide
        have t4 : ((1 : Int) == 5) = false := by decide
        by_cases hs : l.length - k < 8
        · have BS : bodyS l k 1 = (0, [], 0, 2) := by simp [bodyS, hs]
          rw [BS] at HR
          have u1 : decide ((l.length : Int) - k < 8) = true := by simp; omega
          clear BS
          go_enter Tryd.func46, Tryd.ntmps46
          go_wp2
          refine bodyPost_ret (v := .tuple #[.agg #[.int .i64 0, .int .i64 0, .int .u64 0, .slice none 0 0], .int .i64 0, .int .i64 2]) (by simp [results, Tryd.f46, go_sem]) rfl (HR.out _ _ ((Grow.refl w).al _) Rd.nil)
        · have BS : bodyS l k 1 = (lowN ((l.drop k).take 8), [], ((k + 8 : Nat) : Int), 0) := by simp [bodyS, hs]
          rw [BS] at HR
          have hsn : k + 8 ≤ l.length := by omega
          have u1 : decide ((l.length : Int) - k < 8) = false := by simp; omega
          have hlen : ((l.drop k).take 8).length = 8 := by simp; omega
          have HSB := Rd.sub8 (HB.out.gr2 (by decide) GX.out) hsn
          have HL := Lib.hid fun (v : Value) (W : World) (h : Rd W (· < w.heap.size) 1 v ((l.drop k).take 8).length (U8 ((l.drop k).take 8))) (R : Ending → World → Prop) hR => low_any ((l.drop k).take 8) v _ W h (by omega) (R := R) hR
          generalize lowN ((l.drop k).take 8) = q at *
          rw [if_neg (show ¬ c = k by omega)] at HSB
          have HSB := Lib.hid HSB
          clear BS hs h3 h4
          go_enter Tryd.func46, Tryd.ntmps46
          repeat (first | go_values | go_skip | go_guarded | go_step | go_upon | go_back)
          refine HL.out _ _ HSB.out _ ?_
          go_wp2
          refine bodyPost_ret (v := .tuple #[.agg #[.int .i64 0, .int .i64 0, .int .u64 q, .slice none 0 0], .int .i64 ((k + 8 : Nat) : Int), .int .i64 0]) (by simp [results, Tryd.f46, go_sem]) rfl (HR.out _ _ ((Grow.refl w).al _) Rd.nil)
      · have t3 : ((kind : Int) == 1) = false := by rw [beq_eq_false_iff_ne]; omega
        by_cases h5' : kind = 5
        · subst h5'
          have t3 : ((5 : Int) == 1) = false := by decide
          have t4 : ((5 : Int) == 5) = true := by decide
          by_cases hs : l.length - k < 4
          · have BS : bodyS l k 5 = (0, [], 0, 2) := by simp [bodyS, hs]
            rw [BS] at HR
            have u1 : decide ((l.length : Int) - k < 4) = true := by simp; omega
            clear BS
            go_enter Tryd.func46, Tryd.ntmps46
            go_wp2
            refine bodyPost_ret (v := .tuple #[.agg #[.int .i64 0, .int .i64 0, .int .u64 0, .slice none 0 0], .int .i64 0, .int .i64 2]) (by simp [results, Tryd.f46, go_sem]) rfl (HR.out _ _ ((Grow.refl w).al _) Rd.nil)
          · have BS : bodyS l k 5 = (lowN ((l.drop k).take 4), [], ((k + 4 : Nat) : Int), 0) := by simp [bodyS, hs]
            rw [BS] at HR
            have hsn : k + 4 ≤ l.length := by omega
            have u1 : decide ((l.length : Int) - k < 4) = false := by simp; omega
            have hlen : ((l.drop k).take 4).length = 4 := by simp; omega
            have HSB := Rd.sub8 (HB.out.gr2 (by decide) GX.out) hsn
            have HL := Lib.hid fun (v : Value) (W : World) (h : Rd W (· < w.heap.size) 1 v ((l.drop k).take 4).length (U8 ((l.drop k).take 4))) (R : Ending → World → Prop) hR => low_any ((l.drop k).take 4) v _ W h (by omega) (R := R) hR
            generalize lowN ((l.drop k).take 4) = q at *
            rw [if_neg (show ¬ c = k by omega)] at HSB
            have HSB := Lib.hid HSB
            clear BS hs h3 h4
            go_enter Tryd.func46, Tryd.ntmps46
            repeat (first | go_values | go_skip | go_guarded | go_step | go_upon | go_back)
            refine HL.out _ _ HSB.out _ ?_
            go_wp2
            refine bodyPost_ret (v := .tuple #[.agg #[.int .i64 0, .int .i64 0, .int .u64 q, .slice none 0 0], .int .i64 ((k + 4 : Nat) : Int), .int .i64 0]) (by simp [results, Tryd.f46, go_sem]) rfl (HR.out _ _ ((Grow.refl w).al _) Rd.nil)
        · have t4 : ((kind : Int) == 5) = false := by rw [beq_eq_false_iff_ne]; omega
          have BS : bodyS l k kind = (0, [], 0, 3) := by simp [bodyS, h0, h2', h1', h5']
          rw [BS] at HR
          clear BS h0 h2' h1' h5'
          go_enter Tryd.func46, Tryd.ntmps46
          go_wp2
          refine bodyPost_ret (v := .tuple #[.agg #[.int .i64 0, .int .i64 0, .int .u64 0, .slice none 0 0], .int .i64 0, .int .i64 3]) (by simp [results, Tryd.f46, go_sem]) rfl (HR.out _ _ ((Grow.refl w).al _) Rd.nil)
end Go.Proofs.YtjalimkajcjapaaDoor

namespace Go.Proofs.YtjalimkajcjapaaDoor
open Go.RowKit

/-- a number with a sign as one without; and back -/
def zig (n : Int) : Int := if n < 0 then -2 * n - 1 else 2 * n
def zag (v : Int) : Int := if v % 2 = 1 then -(v / 2) - 1 else v / 2

theorem zag_zig (n : Int) : zag (zig n) = n := by unfold zag zig; split <;> split <;> omega

theorem zig_bits (n : Int) (h : I64 n) : bits BinOp.xor IntKind.u64 (IntKind.u64.wrap (IntKind.u64.wrap n * 2)) (IntKind.u64.wrap (n / 9223372036854775808)) = zig n := by
  unfold I64 at h
  simp only [IntKind.wrap_u64]
  unfold zig
  by_cases h0 : n < 0
  · rw [if_pos h0, show n / 9223372036854775808 = -1 by omega, show (-1 : Int) % 18446744073709551616 = 18446744073709551615 by decide, xor_u64_ones _ (by omega)]
    omega
  · rw [if_neg h0, show n / 9223372036854775808 = 0 by omega, show (0 : Int) % 18446744073709551616 = 0 by decide, xor_u64_zero _ (by omega)]
    omega

theorem zag_bits (n : Int) (h : U64 n) : bits BinOp.xor IntKind.i64 (wrap64 (n / 2)) (wrap64 (-wrap64 (bits BinOp.and IntKind.u64 n 1))) = zag n := by
  unfold U64 at h
  rw [and_u64_one _ (by omega), IntWalk.wrap64_in (n / 2) (by omega), IntWalk.wrap64_in (n % 2) (by omega), IntWalk.wrap64_in _ (by omega)]
  unfold zag
  by_cases h0 : n % 2 = 1
  · rw [if_pos h0, h0, xor_i64_ones _ (by omega)]
  · rw [if_neg h0, show n % 2 = 0 by omega]
    exact xor_i64_zero _ (by omega)

set_option maxRecDepth 100000 in
set_option maxHeartbeats 1000000 in
theorem zig_any (n : Int) (w : World) (h : I64 n) {R : Ending → World → Prop} (hR : R (.returned (.int .u64 (zig n))) w) :
    Calls Tryd.prog 38 #[.int .i64 n] w R := by
  go_enter Tryd.func38, Tryd.ntmps38
  go_wp2
  exact at_ hR (ret1 (zig_bits n h))
set_option maxRecDepth 100000 in
set_option maxHeartbeats 1000000 in
theorem rzig_any (n : Int) (w : World) (h : I64 n) {R : Ending → World → Prop} (hR : R (.returned (.int .u64 (zig n))) w) :
    Calls Tryd.prog 53 #[.int .i64 n] w R := by
  have H := Lib.hid h
  unfold I64 at h
  obtain ⟨h1, h2⟩ := h
  by_cases h0 : n < 0
  · go_enter Tryd.func53, Tryd.ntmps53
    go_wp2
    exact at_ hR (ret1 (by unfold zig; rw [if_pos h0]; omega))
  · go_enter Tryd.func53, Tryd.ntmps53
    go_wp2
    exact at_ hR (ret1 (by unfold zig; rw [if_neg (by omega)]))
set_option maxRecDepth 100000 in
set_option maxHeartbeats 1000000 in
theorem zag_any (n : Int) (w : World) (h : U64 n) {R : Ending → World → Prop} (hR : R (.returned (.int .i64 (zag n))) w) :
    Calls Tryd.prog 71 #[.int .u64 n] w R := by
  have h0 : 0 ≤ n := h.1
  go_enter Tryd.func71, Tryd.ntmps71
  go_wp2
  exact at_ hR (ret1 (zag_bits n h))
end Go.Proofs.YtjalimkajcjapaaDoor

namespace Go.Proofs.YtjalimkajcjapaaDoor
open Go.RowKit

theorem el_u32 : Elem Tryd.prog 71 72 (.int .u32 0) 1 4 := ⟨by kernel_rfl, by kernel_rfl, rfl, by decide, by decide⟩
def U32 (l : List Int) : List Value := l.map (.int .u32)
theorem U32_len (l : List Int) : (U32 l).length = l.length := by simp [U32]
theorem U32_at (l : List Int) (k : Nat) (h : k < l.length) : (U32 l)[k]? = some (.int .u32 l[k]) := by simp [U32, h]
theorem U32_app (l m : List Int) : U32 (l ++ m) = U32 l ++ U32 m := by simp [U32]

theorem take_succ_eq {α : Type} {la lb : List α} {k : Nat} (ha : k < la.length) (hb : k < lb.length) (h : la.take k = lb.take k) (hx : la[k] = lb[k]) : la.take (k + 1) = lb.take (k + 1) := by
  rw [List.take_succ_eq_append_getElem ha, List.take_succ_eq_append_getElem hb, h, hx]

set_option maxRecDepth 100000 in
set_option maxHeartbeats 1000000 in
theorem pack_any (l : List Int) (v : Value) (S : Nat → Prop) (w : World) (hb : Rd w S 1 v l.length (U32 l)) (hl : l.length ≤ 1000) (hv : ∀ n ∈ l, 0 ≤ n ∧ n ≤ 4294967295) {R : Ending → World → Prop}
    (hR : ∀ r w', w'.ownsRow w.heap.size 5 1 r (pack l).length (U8 (pack l)) → Grow w w' → R (.returned r) w') :
    Calls Tryd.prog 34 #[v] w R := by
  have hb := hb.lt (by decide)
  obtain ⟨_, A, c, rfl, h1, h2, h3, h4⟩ := hb
  unfold maxLen at h2
  have HR := Lib.hid hR
  clear hR
  go_enter Tryd.func34, Tryd.ntmps34
  go_wp2
  go_loopw [8, 3] (fun i s wr => ∃ (k m : Nat), k ≤ l.length ∧ i = .int .i64 k ∧ m ≤ k * 10 ∧ wr.ownsRow w.heap.size 5 1 s m (U8 (pack (l.take k))) ∧ Hid (Grow w wr)) (fun i _ _ => l.length - (intOf i).toNat)
  case atStart => exact ⟨0, 0, Nat.zero_le _, rfl, by omega, World.ownsRow_nil _ _ _ _, Grow.refl _⟩
  case round =>
    obtain ⟨k, m, hk, rfl, hm, hown, hg⟩ := hrel
    by_cases hlt : k < l.length
    · obtain ⟨b, o, rfl, hS, hc⟩ := h4 (by omega)
      have c1 : wr.cell? ⟨b, o + k, none⟩ = some (.int .u32 l[k]) := (hg.out.cell (p := ⟨b, o + k, none⟩) hS).trans (hc k _ (U32_at l k hlt))
      have hx := hv l[k] (List.getElem_mem hlt)
      have HT : Hid (l.take (k + 1) = l.take k ++ [l[k]]) := by show _ = _; rw [List.take_succ_eq_append_getElem hlt]
      have HO := Lib.hid hown
      clear hc h4 h3 hv hown
      generalize l[k] = x at *
      obtain ⟨x, rfl⟩ := Int.eq_ofNat_of_zero_le hx.1
      have hx64 : x < 18446744073709551616 := by omega
      obtain ⟨hp1, hp2⟩ := vput_len 9 x
      go_wp2_with fail
      refine putVarint_any [] _ x (fun _ => True) _ Rd.nil (by simp) hx64 ?_
      intro r1 w1 hown1 hg1
      have hown1 := own_eq hown1 (m := (vput 9 x).length) (ys := U8 (vput 9 x)) (by simp) (by simp)
      have HO1 := Lib.hid hown1
      have HG1 := Lib.hid hg1
      clear hg1 hown1
      go_wp2_with (at_builtin; refine wpList_app rfl _ _ rfl el_u8 (own_grow HO.out HG1.out) rfl (Rd.own HO1.out) rfl (U8_one _) (by omega) (hg.out.tr HG1.out).size ?_; intro v2 w2 hown2 hgr2 hb2; have HG2 := Lib.hid (grow_app (hg.out.tr HG1.out) hgr2 (own_ge (own_grow HO.out HG1.out))); clear hgr2 hb2)
      go_roundw
      case rel =>
        refine ⟨k + 1, m + (vput 9 x).length, by omega, by go_num, by omega, own_eq hown2 rfl ?_, HG2⟩
        rw [← U8_app, HT.out]
        simp [pack]
      case measure => simp [intOf]; omega
    · obtain rfl : k = l.length := by omega
      go_wp2
      refine HR.out _ _ (own_eq hown ?_ ?_) hg.out
      · have := hown.1
        rw [U8_len, List.take_length] at this
        omega
      · rw [List.take_length]

set_option maxRecDepth 100000 in
set_option maxHeartbeats 1000000 in
theorem rpack_any (l : List Int) (v : Value) (S : Nat → Prop) (w : World) (hb : Rd w S 1 v l.length (U32 l)) (hl : l.length ≤ 1000) (hv : ∀ n ∈ l, 0 ≤ n ∧ n ≤ 4294967295) {R : Ending → World → Prop}
    (hR : ∀ r w', w'.ownsRow w.heap.size 5 1 r (pack l).length (U8 (pack l)) → Grow w w' → R (.returned r) w') :
    Calls Tryd.prog 28 #[v] w R := by
  have hb := hb.lt (by decide)
  obtain ⟨_, A, c, rfl, h1, h2, h3, h4⟩ := hb
  unfold maxLen at h2
  have HR := Lib.hid hR
  clear hR
  go_enter Tryd.func28, Tryd.ntmps28
  go_wp2
  go_loopw [4, 3] (fun i s wr => ∃ (k m : Nat), k ≤ l.length ∧ i = .int .i64 k ∧ m ≤ k * 10 ∧ wr.ownsRow w.heap.size 5 1 s m (U8 (pack (l.take k))) ∧ Hid (Grow w wr)) (fun i _ _ => l.length - (intOf i).toNat)
  case atStart => exact ⟨0, 0, Nat.zero_le _, rfl, by omega, World.ownsRow_nil _ _ _ _, Grow.refl _⟩
  case round =>
    obtain ⟨k, m, hk, rfl, hm, hown, hg⟩ := hrel
    by_cases hlt : k < l.length
    · obtain ⟨b, o, rfl, hS, hc⟩ := h4 (by omega)
      have c1 : wr.cell? ⟨b, o + k, none⟩ = some (.int .u32 l[k]) := (hg.out.cell (p := ⟨b, o + k, none⟩) hS).trans (hc k _ (U32_at l k hlt))
      have hx := hv l[k] (List.getElem_mem hlt)
      have HT : Hid (l.take (k + 1) = l.take k ++ [l[k]]) := by show _ = _; rw [List.take_succ_eq_append_getElem hlt]
      have HO := Lib.hid hown
      clear hc h4 h3 hv hown
      generalize l[k] = x at *
      obtain ⟨x, rfl⟩ := Int.eq_ofNat_of_zero_le hx.1
      have hx64 : x < 18446744073709551616 := by omega
      obtain ⟨hp1, hp2⟩ := vput_len 9 x
      go_wp2_with fail
      refine rbytes_any x _ hx64 ?_
      intro r1 w1 hown1 hg1
      have hown1 := own_eq hown1 (m := (vput 9 x).length) (ys := U8 (vput 9 x)) (by simp) (by simp)
      have HO1 := Lib.hid hown1
      have HG1 := Lib.hid hg1
      clear hg1 hown1
      go_wp2_with (at_builtin; refine wpList_app rfl _ _ rfl el_u8 (own_grow HO.out HG1.out) rfl (Rd.own HO1.out) rfl (U8_one _) (by omega) (hg.out.tr HG1.out).size ?_; intro v2 w2 hown2 hgr2 hb2; have HG2 := Lib.hid (grow_app (hg.out.tr HG1.out) hgr2 (own_ge (own_grow HO.out HG1.out))); clear hgr2 hb2)
      go_roundw
      case rel =>
        refine ⟨k + 1, m + (vput 9 x).length, by omega, by go_num, by omega, own_eq hown2 rfl ?_, HG2⟩
        rw [← U8_app, HT.out]
        simp [pack]
      case measure => simp [intOf]; omega
    · obtain rfl : k = l.length := by omega
      go_wp2
      refine HR.out _ _ (own_eq hown ?_ ?_) hg.out
      · have := hown.1
        rw [U8_len, List.take_length] at this
        omega
      · rw [List.take_length]

set_option maxRecDepth 100000 in
set_option maxHeartbeats 1000000 in
theorem unpack_any (l : List UInt8) (v : Value) (S : Nat → Prop) (w : World) (hb : Rd w S 1 v l.length (U8 l)) (hl : l.length ≤ 100000) {R : Ending → World → Prop}
    (hR : ∀ r w', w'.ownsRow w.heap.size 72 1 r (unpack l).1.length (U32 (unpack l).1) → Grow w w' → R (.returned (.tuple #[r, .int .i64 (unpack l).2])) w') :
    Calls Tryd.prog 68 #[v] w R := by
  have HB := Lib.hid (hb.lt (by decide))
  obtain ⟨_, A, c, rfl, h1, h2, _, _⟩ := hb
  unfold maxLen at h2
  have HR := Lib.hid hR
  clear hR
  go_enter Tryd.func68, Tryd.ntmps68
  go_wp2
  go_loopw [5, 4] (fun i s wr => ∃ (k f : Nat) (acc : List Int), k ≤ l.length ∧ i = .int .i64 k ∧ Hid (l.length - k < f) ∧ Hid (unpack l = unpGo l f k acc) ∧ acc.length ≤ k ∧ wr.ownsRow w.heap.size 72 1 s acc.length (U32 acc) ∧ Hid (Grow w wr)) (fun i _ _ => l.length - (intOf i).toNat)
  case atStart => exact ⟨0, l.length + 1, [], Nat.zero_le _, rfl, by show _ < _; omega, rfl, by simp, World.ownsRow_nil _ _ _ _, Grow.refl _⟩
  case round =>
    obtain ⟨k, f, acc, hk, rfl, hf, hu, hal, hown, hg⟩ := hrel
    by_cases hlt : k < l.length
    · have HO := Lib.hid hown
      clear hown
      have H := fun S h => varint_any l (.slice A l.length c) k S wr h (by omega)
      have hok := fun {v nx : Int} => @varint_ok l k v nx
      obtain ⟨f, rfl⟩ := Nat.exists_eq_succ_of_ne_zero (show f ≠ 0 by have := hf.out; omega)
      have hnk : ¬ (l.length : Int) ≤ k := by omega
      have E1 := fun {v nx e : Int} => @unpGo_err l f k v nx e acc hnk
      have E2 := fun {v nx : Int} => @unpGo_big l f k v nx acc hnk
      have E3 := fun {v nx : Int} => @unpGo_more l f k v nx acc hnk
      generalize varint l k = X at *
      obtain ⟨x, nx, e⟩ := X
      dsimp only at H
      have H := Lib.hid H
      by_cases he : e = 0
      · subst he
        obtain ⟨hx0, _, hn1, hn2⟩ := hok rfl
        have F2 := Lib.hid (E2 rfl)
        have F3 := Lib.hid (E3 rfl)
        clear E1 E2 E3 hok hnk
        obtain ⟨x, rfl⟩ := Int.eq_ofNat_of_zero_le hx0
        obtain ⟨nx, rfl⟩ := Int.eq_ofNat_of_zero_le (show 0 ≤ nx by omega)
        by_cases hbig : 4294967295 < x
        · go_wp2_with fail
          refine (H.out _ (HB.out.grow hg.out)).mono ?_
          rintro e w' ⟨rfl, rfl⟩
          go_wp2
          have h := HR.out
          rw [hu.out, F2.out (by omega)] at h
          exact h _ _ (World.ownsRow_nil _ _ _ _) hg.out
        · go_wp2_with fail
          refine (H.out _ (HB.out.grow hg.out)).mono ?_
          rintro e w' ⟨rfl, rfl⟩
          go_wp2_with (at_builtin; refine wpList_new rfl _ _ rfl el_u32 HO.out rfl 1 _ rfl (by decide) rfl (by simp [Value.oneCell']) (by omega) hg.out ⟨Nat.le_refl _, hg.out.size⟩ ?_; intro v1 w1 hown1 hg1 hgr1 hb1; have HG1 := Lib.hid hg1; clear hg1 hgr1 hb1)
          go_roundw
          case rel =>
            refine ⟨nx, f, acc ++ [(x : Int)], by omega, rfl, ?_, ?_, ?_, own_eq hown1 (by simp) (by simp [U32]), HG1⟩
            · have := hf.out
              show _ < _
              omega
            · show _ = _
              rw [hu.out, F3.out (by omega)]
            · simp; omega
          case measure => simp [intOf]; omega
      · have t1 : (e != 0) = true := by simp [he]
        have F1 := Lib.hid (E1 rfl he)
        clear E1 E2 E3 hok hnk he
        go_wp2_with fail
        refine (H.out _ (HB.out.grow hg.out)).mono ?_
        rintro e w' ⟨rfl, rfl⟩
        go_wp2
        have h := HR.out
        rw [hu.out, F1.out] at h
        exact h _ _ (World.ownsRow_nil _ _ _ _) hg.out
    · obtain rfl : k = l.length := by omega
      go_wp2
      have h := HR.out
      rw [hu.out, unpGo_end (Int.le_refl _)] at h
      exact h _ _ hown hg.out

end Go.Proofs.YtjalimkajcjapaaDoor

namespace Go.Proofs.YtjalimkajcjapaaDoor

theorem vgo_pre (a t : List UInt8) (k : Nat) : ∀ (f i v : Nat) (x nx : Int), vgo a k f i v = (x, nx, 0) → vgo (a ++ t) k f i v = (x, nx, 0) := by
  intro f
  induction f with
  | zero => intro i v x nx h; simp [vgo] at h
  | succ f ih =>
    intro i v x nx h
    rcases Nat.lt_or_ge (k + i) a.length with hlt | hge
    · have hlt2 : k + i < (a ++ t).length := by simp; omega
      have hx : (a ++ t)[k + i].toNat = a[k + i].toNat := by rw [List.getElem_append_left hlt]
      by_cases h9 : i = 9 ∧ 1 < a[k + i].toNat
      · rw [vgo_form hlt rfl h9] at h; simp at h
      · by_cases hl : a[k + i].toNat < 128
        · rw [vgo_done hlt rfl h9 hl] at h; rw [vgo_done hlt2 hx h9 hl]; exact h
        · rw [vgo_more hlt rfl h9 hl] at h; rw [vgo_more hlt2 hx h9 hl]; exact ih _ _ _ _ h
    · rw [vgo_short hge] at h; simp at h
theorem varint_pre (a t : List UInt8) {k x nx : Int} (h : varint a k = (x, nx, 0)) : varint (a ++ t) k = (x, nx, 0) := by
  unfold varint at h ⊢
  split at h
  · simp at h
  · rename_i h1
    rw [if_neg (by simp only [List.length_append]; omega)]
    exact vgo_pre _ _ _ _ _ _ _ _ h
def sh (n : Nat) (r : Int × Int × Int) : Int × Int × Int := if r.2.2 = 0 then (r.1, r.2.1 + n, 0) else r
theorem vgo_sh (a b : List UInt8) (k : Nat) : ∀ (f i v : Nat), vgo (a ++ b) (a.length + k) f i v = sh a.length (vgo b k f i v) := by
  intro f
  induction f with
  | zero => intro i v; simp [vgo, sh]
  | succ f ih =>
    intro i v
    rcases Nat.lt_or_ge (k + i) b.length with hlt | hge
    · have hlt2 : a.length + k + i < (a ++ b).length := by simp; omega
      have hx : (a ++ b)[a.length + k + i].toNat = b[k + i].toNat := by
        rw [List.getElem_append_right (by omega)]
        simp only [show a.length + k + i - a.length = k + i by omega]
      by_cases h9 : i = 9 ∧ 1 < b[k + i].toNat
      · rw [vgo_form hlt rfl h9, vgo_form hlt2 hx h9]; simp [sh]
      · by_cases hl : b[k + i].toNat < 128
        · rw [vgo_done hlt rfl h9 hl, vgo_done hlt2 hx h9 hl]
          simp [sh]
          omega
        · rw [vgo_more hlt rfl h9 hl, vgo_more hlt2 hx h9 hl]; exact ih _ _
    · rw [vgo_short hge, vgo_short (by simp; omega)]; simp [sh]
theorem varint_sh (a b : List UInt8) (k : Nat) : varint (a ++ b) ((a.length + k : Nat) : Int) = sh a.length (varint b k) := by
  unfold varint
  by_cases h : (b.length : Int) < k
  · rw [if_pos (by simp only [List.length_append]; omega), if_pos (Or.inr h)]; simp [sh]
  · rw [if_neg (by simp only [List.length_append]; omega), if_neg (by omega)]
    simp only [Int.toNat_natCast]
    exact vgo_sh _ _ _ _ _ _

theorem bodyS_pre (a t : List UInt8) {k kind n : Nat} {d : List UInt8} {nx : Int} (hk : k ≤ a.length) (h : bodyS a k kind = (n, d, nx, 0)) : bodyS (a ++ t) k kind = (n, d, nx, 0) := by
  unfold bodyS at h ⊢
  split at h
  · rename_i h0
    rw [if_pos h0]
    simp only [Prod.mk.injEq] at h
    obtain ⟨rfl, rfl, rfl, he⟩ := h
    have hv : varint a k = ((varint a k).1, (varint a k).2.1, 0) := by rw [← he]
    rw [varint_pre a t hv]
  · rename_i h0
    rw [if_neg h0]
    split at h
    · rename_i h2
      rw [if_pos h2]
      split at h
      · simp only [Prod.mk.injEq] at h; rename_i h1; exact absurd h.2.2.2 h1
      · rename_i he
        have he : (varint a k).2.2 = 0 := by simpa using he
        have hv : varint a k = ((varint a k).1, (varint a k).2.1, 0) := by rw [← he]
        have h1 := varint_ok hv
        rw [varint_pre a t hv]
        dsimp only
        rw [if_neg (by simp)]
        split at h
        · simp at h
        · rw [if_neg (by simp only [List.length_append]; omega), List.drop_append_of_le_length (by omega), List.take_append_of_le_length (by simp; omega)]
          exact h
    · rename_i h2
      rw [if_neg h2]
      split at h
      · rename_i h1
        rw [if_pos h1]
        split at h
        · simp at h
        · rw [if_neg (by simp only [List.length_append]; omega), List.drop_append_of_le_length (by omega), List.take_append_of_le_length (by simp; omega)]
          exact h
      · rename_i h1
        rw [if_neg h1]
        split at h
        · rename_i h5
          rw [if_pos h5]
          split at h
          · simp at h
          · rw [if_neg (by simp only [List.length_append]; omega), List.drop_append_of_le_length (by omega), List.take_append_of_le_length (by simp; omega)]
            exact h
        · simp at h
def shB (n : Nat) (r : Nat × List UInt8 × Int × Int) : Nat × List UInt8 × Int × Int := if r.2.2.2 = 0 then (r.1, r.2.1, r.2.2.1 + n, 0) else r
theorem sh_ok {n : Nat} {r : Int × Int × Int} (h : r.2.2 = 0) : sh n r = (r.1, r.2.1 + n, 0) := by unfold sh; rw [if_pos h]
theorem sh_err {n : Nat} {r : Int × Int × Int} (h : r.2.2 ≠ 0) : sh n r = r := by unfold sh; rw [if_neg h]
theorem shB_ok {n : Nat} {r : Nat × List UInt8 × Int × Int} (h : r.2.2.2 = 0) : shB n r = (r.1, r.2.1, r.2.2.1 + n, 0) := by unfold shB; rw [if_pos h]
theorem shB_err {n : Nat} {r : Nat × List UInt8 × Int × Int} (h : r.2.2.2 ≠ 0) : shB n r = r := by unfold shB; rw [if_neg h]
theorem drop_sh (a b : List UInt8) (n : Nat) : (a ++ b).drop (a.length + n) = b.drop n := by
  rw [List.drop_append, List.drop_eq_nil_of_le (by omega)]
  simp
theorem bodyS_sh (a b : List UInt8) (k kind : Nat) (hk : k ≤ b.length) : bodyS (a ++ b) (a.length + k) kind = shB a.length (bodyS b k kind) := by
  have hla : (a ++ b).length = a.length + b.length := List.length_append
  unfold bodyS
  rw [varint_sh]
  by_cases h0 : kind = 0
  · rw [if_pos h0, if_pos h0]
    by_cases he : (varint b k).2.2 = 0
    · rw [sh_ok he, shB_ok he]
    · rw [sh_err he, shB_err he]
  · rw [if_neg h0, if_neg h0]
    by_cases h2 : kind = 2
    · rw [if_pos h2, if_pos h2]
      by_cases he : (varint b k).2.2 = 0
      · have hv : varint b k = ((varint b k).1, (varint b k).2.1, 0) := by rw [← he]
        have h1 := varint_ok hv
        rw [sh_ok he]
        simp only [he, ne_eq, not_true_eq_false, if_false]
        by_cases hs : (b.length : Int) - (varint b k).2.1 < (varint b k).1
        · have hs2 : ((a ++ b).length : Int) - ((varint b k).2.1 + a.length) < (varint b k).1 := by omega
          rw [if_pos hs, if_pos hs2, shB_err (by decide)]
        · have hs2 : ¬ ((a ++ b).length : Int) - ((varint b k).2.1 + a.length) < (varint b k).1 := by omega
          rw [if_neg hs, if_neg hs2, shB_ok rfl, show ((varint b k).2.1 + (a.length : Int)).toNat = a.length + (varint b k).2.1.toNat by omega, drop_sh]
          simp only [Prod.mk.injEq, true_and, and_true]
          omega
      · have he' : (varint b k).2.2 ≠ 0 := he
        rw [sh_err he, if_pos he', if_pos he', shB_err he]
    · rw [if_neg h2, if_neg h2]
      have hl : (a ++ b).length - (a.length + k) = b.length - k := by omega
      rw [hl, drop_sh]
      by_cases h1 : kind = 1
      · rw [if_pos h1, if_pos h1]
        by_cases hs : b.length - k < 8
        · rw [if_pos hs, if_pos hs, shB_err (by decide)]
        · rw [if_neg hs, if_neg hs, shB_ok rfl]
          simp only [Prod.mk.injEq, true_and, and_true]
          omega
      · rw [if_neg h1, if_neg h1]
        by_cases h5 : kind = 5
        · rw [if_pos h5, if_pos h5]
          by_cases hs : b.length - k < 4
          · rw [if_pos hs, if_pos hs, shB_err (by decide)]
          · rw [if_neg hs, if_neg hs, shB_ok rfl]
            simp only [Prod.mk.injEq, true_and, and_true]
            omega
        · rw [if_neg h5, if_neg h5, shB_err (by decide)]

theorem getGo_fuel (b : List UInt8) : ∀ (f f' k : Nat) (acc : List FD), b.length - k < f → b.length - k < f' → getGo b f k acc = getGo b f' k acc := by
  intro f
  induction f with
  | zero => intro f' k acc h; omega
  | succ f ih =>
    intro f' k acc h h'
    obtain ⟨f', rfl⟩ : ∃ g, f' = g + 1 := ⟨f' - 1, by omega⟩
    by_cases hk : b.length ≤ k
    · rw [getGo_end hk, getGo_end hk]
    · by_cases he : (varint b k).2.2 = 0
      · have hv : varint b k = ((varint b k).1, (varint b k).2.1, 0) := by rw [← he]
        have h1 := varint_ok hv
        by_cases hn : (varint b k).1 / 8 < 1 ∨ 536870911 < (varint b k).1 / 8
        · rw [getGo_num hk he hn, getGo_num hk he hn]
        · by_cases hb : (bodyS b (varint b k).2.1.toNat ((varint b k).1 % 8).toNat).2.2.2 = 0
          · rw [getGo_more hk he hn hb, getGo_more hk he hn hb]
            have hB : bodyS b (varint b k).2.1.toNat ((varint b k).1 % 8).toNat = ((bodyS b (varint b k).2.1.toNat ((varint b k).1 % 8).toNat).1, (bodyS b (varint b k).2.1.toNat ((varint b k).1 % 8).toNat).2.1, (bodyS b (varint b k).2.1.toNat ((varint b k).1 % 8).toNat).2.2.1, 0) := by rw [← hb]
            have h2 := bodyS_ok (by omega) hB
            exact ih _ _ _ (by omega) (by omega)
          · rw [getGo_body hk he hn hb, getGo_body hk he hn hb]
      · rw [getGo_err hk he, getGo_err hk he]

/-- fields behind others -/
def shG (acc : List FD) (r : List FD × Int) : List FD × Int := if r.2 = 0 then (acc ++ r.1, 0) else ([], r.2)
theorem shG_nil {acc : List FD} {e : Int} (h : e ≠ 0) : shG acc ([], e) = ([], e) := by unfold shG; rw [if_neg h]
theorem getGo_sh (a b : List UInt8) (acc0 : List FD) : ∀ (f k : Nat) (acc : List FD), getGo (a ++ b) f (a.length + k) (acc0 ++ acc) = shG acc0 (getGo b f k acc) := by
  intro f
  induction f with
  | zero => intro k acc; simp [getGo, shG]
  | succ f ih =>
    intro k acc
    by_cases hk : b.length ≤ k
    · rw [getGo_end hk, getGo_end (by simp only [List.length_append]; omega)]
      simp [shG]
    · have hk2 : ¬ (a ++ b).length ≤ a.length + k := by simp only [List.length_append]; omega
      have hs := varint_sh a b k
      by_cases he : (varint b k).2.2 = 0
      · have hv : varint b k = ((varint b k).1, (varint b k).2.1, 0) := by rw [← he]
        have h1 := varint_ok hv
        rw [sh_ok he] at hs
        have e1 : ((varint b k).2.1 + (a.length : Int)).toNat = a.length + (varint b k).2.1.toNat := by omega
        have hbs := bodyS_sh a b (varint b k).2.1.toNat ((varint b k).1 % 8).toNat (by omega)
        have he2 : (varint (a ++ b) ((a.length + k : Nat) : Int)).2.2 = 0 := by rw [hs]
        by_cases hn : (varint b k).1 / 8 < 1 ∨ 536870911 < (varint b k).1 / 8
        · rw [getGo_num hk he hn, getGo_num hk2 he2 (by rw [hs]; exact hn), shG_nil (by decide)]
        · have hn2 : ¬ ((varint (a ++ b) ((a.length + k : Nat) : Int)).1 / 8 < 1 ∨ 536870911 < (varint (a ++ b) ((a.length + k : Nat) : Int)).1 / 8) := by rw [hs]; exact hn
          by_cases hb : (bodyS b (varint b k).2.1.toNat ((varint b k).1 % 8).toNat).2.2.2 = 0
          · rw [shB_ok hb] at hbs
            have hB : bodyS b (varint b k).2.1.toNat ((varint b k).1 % 8).toNat = ((bodyS b (varint b k).2.1.toNat ((varint b k).1 % 8).toNat).1, (bodyS b (varint b k).2.1.toNat ((varint b k).1 % 8).toNat).2.1, (bodyS b (varint b k).2.1.toNat ((varint b k).1 % 8).toNat).2.2.1, 0) := by rw [← hb]
            have h2 := bodyS_ok (by omega) hB
            rw [getGo_more hk he hn hb, getGo_more hk2 he2 hn2 (by rw [hs]; dsimp only; rw [e1, hbs]), hs]
            dsimp only
            rw [e1, hbs]
            dsimp only
            rw [show ((bodyS b (varint b k).2.1.toNat ((varint b k).1 % 8).toNat).2.2.1 + (a.length : Int)).toNat = a.length + (bodyS b (varint b k).2.1.toNat ((varint b k).1 % 8).toNat).2.2.1.toNat by omega, List.append_assoc]
            exact ih _ _
          · rw [shB_err hb] at hbs
            rw [getGo_body hk he hn hb, getGo_body hk2 he2 hn2 (by rw [hs]; dsimp only; rw [e1, hbs]; exact hb), hs]
            dsimp only
            rw [e1, hbs, shG_nil hb]
      · rw [sh_err he] at hs
        rw [getGo_err hk he, getGo_err hk2 (by rw [hs]; exact he), hs, shG_nil he]
theorem getGo_pre (a b : List UInt8) : ∀ (f k : Nat) (acc r : List FD) (f' : Nat), k ≤ a.length → a.length - k < f → (a ++ b).length - k < f' → getGo a f k acc = (r, 0) → getGo (a ++ b) f' k acc = getGo (a ++ b) (b.length + 1) a.length r := by
  intro f
  induction f with
  | zero => intro k acc r f' _ h; omega
  | succ f ih =>
    intro k acc r f' hka hf hf' h
    by_cases hk : a.length ≤ k
    · obtain rfl : k = a.length := by omega
      rw [getGo_end hk] at h
      injection h with h _
      subst h
      exact getGo_fuel _ _ _ _ _ hf' (by simp only [List.length_append]; omega)
    · obtain ⟨f', rfl⟩ : ∃ g, f' = g + 1 := ⟨f' - 1, by omega⟩
      have hk2 : ¬ (a ++ b).length ≤ k := by simp only [List.length_append]; omega
      by_cases he : (varint a k).2.2 = 0
      · have hv : varint a k = ((varint a k).1, (varint a k).2.1, 0) := by rw [← he]
        have h1 := varint_ok hv
        have hp := varint_pre a b hv
        have he2 : (varint (a ++ b) k).2.2 = 0 := by rw [hp]
        by_cases hn : (varint a k).1 / 8 < 1 ∨ 536870911 < (varint a k).1 / 8
        · rw [getGo_num hk he hn] at h; simp at h
        · have hn2 : ¬ ((varint (a ++ b) k).1 / 8 < 1 ∨ 536870911 < (varint (a ++ b) k).1 / 8) := by rw [hp]; exact hn
          by_cases hb : (bodyS a (varint a k).2.1.toNat ((varint a k).1 % 8).toNat).2.2.2 = 0
          · have hB : bodyS a (varint a k).2.1.toNat ((varint a k).1 % 8).toNat = ((bodyS a (varint a k).2.1.toNat ((varint a k).1 % 8).toNat).1, (bodyS a (varint a k).2.1.toNat ((varint a k).1 % 8).toNat).2.1, (bodyS a (varint a k).2.1.toNat ((varint a k).1 % 8).toNat).2.2.1, 0) := by rw [← hb]
            have h2 := bodyS_ok (b := a) (by omega) hB
            have hbp := bodyS_pre a b (by omega) hB
            rw [getGo_more hk he hn hb] at h
            rw [getGo_more hk2 he2 hn2 (by rw [hp]; dsimp only; rw [hbp]), hp]
            dsimp only
            rw [hbp]
            dsimp only
            exact ih _ _ _ _ (by omega) (by omega) (by simp only [List.length_append] at hf' ⊢; omega) h
          · rw [getGo_body hk he hn hb] at h; simp only [Prod.mk.injEq] at h; exact absurd h.2 hb
      · rw [getGo_err hk he] at h; simp only [Prod.mk.injEq] at h; exact absurd h.2 he
/-- P7.2: messages one behind the other -/
theorem get_app (a b : List UInt8) {l : List FD} (h : get a = (l, 0)) : get (a ++ b) = shG l (get b) := by
  unfold get at h ⊢
  rw [getGo_pre a b _ _ _ _ _ (Nat.zero_le _) (by omega) (by omega) h]
  have := getGo_sh a b l (b.length + 1) 0 []
  simpa using this

/-- as fields are put -/
def fdput (f : FD) : List UInt8 :=
  if f.kind = 0 then vput 9 (f.num % 536870912 * 8 + f.kind % 8).toNat ++ vput 9 f.int
  else if f.kind = 1 then vput 9 (f.num % 536870912 * 8 + f.kind % 8).toNat ++ le 8 f.int
  else if f.kind = 5 then vput 9 (f.num % 536870912 * 8 + f.kind % 8).toNat ++ le 4 f.int
  else if f.kind = 2 then vput 9 (f.num % 536870912 * 8 + f.kind % 8).toNat ++ (vput 9 f.data.length ++ f.data)
  else []
/-- a field as it may be got -/
structure FD.good (f : FD) : Prop where
  num : 1 ≤ f.num ∧ f.num ≤ 536870911
  kind : f.kind = 0 ∧ f.int < 18446744073709551616 ∧ f.data = [] ∨ f.kind = 1 ∧ f.int < 256 ^ 8 ∧ f.data = [] ∨ f.kind = 5 ∧ f.int < 256 ^ 4 ∧ f.data = [] ∨ f.kind = 2 ∧ f.int = 0 ∧ f.data.length < 18446744073709551616

theorem lowN_le : ∀ (k v : Nat), v < 256 ^ k → lowN (le k v) = v := by
  intro k
  induction k with
  | zero => intro v h; simp at h; subst h; rfl
  | succ k ih =>
    intro v h
    have e : le (k + 1) v = UInt8.ofNat (v % 256) :: le k (v / 256) := by
      unfold le
      rw [List.range_succ_eq_map]
      simp only [List.map_cons, List.map_map, Nat.pow_zero, Nat.div_one, List.cons.injEq, true_and]
      apply List.map_congr_left
      intro i _
      simp only [Function.comp_apply, Nat.succ_eq_add_one]
      rw [Nat.pow_succ, Nat.mul_comm, Nat.div_div_eq_div_mul]
    rw [e]
    simp only [lowN]
    rw [ih (v / 256) (by rw [Nat.pow_succ] at h; omega)]
    have : (UInt8.ofNat (v % 256)).toNat = v % 256 := by simp
    rw [this]
    omega
theorem varint_own (v : Nat) (t : List UInt8) (hv : v < 18446744073709551616) : varint (vput 9 v ++ t) ((0 : Nat) : Int) = ((v : Int), ((vput 9 v).length : Int), 0) := by
  have := varint_vput [] t v hv
  simpa using this
theorem get_one {f : FD} (h : f.good) : get (fdput f) = ([f], 0) := by
  obtain ⟨num, kind, int, data⟩ := f
  obtain ⟨⟨hn1, hn2⟩, hk⟩ := h
  dsimp only at hn1 hn2 hk
  have key : ∀ rest, (kind = 0 ∨ kind = 1 ∨ kind = 2 ∨ kind = 5) → bodyS rest 0 kind.toNat = (int, data, (rest.length : Int), 0) → get (vput 9 (num % 536870912 * 8 + kind % 8).toNat ++ rest) = ([⟨num, kind, int, data⟩], 0) := by
    intro rest hkk hr
    have e : (((num % 536870912 * 8 + kind % 8).toNat : Nat) : Int) = num * 8 + kind := by omega
    have hv := varint_own (num % 536870912 * 8 + kind % 8).toNat rest (by omega)
    rw [e] at hv
    generalize vput 9 (num % 536870912 * 8 + kind % 8).toNat = V at *
    have hs := bodyS_sh V rest 0 kind.toNat (Nat.zero_le _)
    rw [hr, shB_ok rfl] at hs
    have d8 : (num * 8 + kind) / 8 = num := by omega
    have m8 : (num * 8 + kind) % 8 = kind := by omega
    by_cases hl : (V ++ rest).length ≤ 0
    · exfalso
      have h1 := varint_ok hv
      simp only [List.length_append] at hl h1
      omega
    · unfold get
      have he : (varint (V ++ rest) ((0 : Nat) : Int)).2.2 = 0 := by rw [hv]
      have hB : bodyS (V ++ rest) (varint (V ++ rest) ((0 : Nat) : Int)).2.1.toNat ((varint (V ++ rest) ((0 : Nat) : Int)).1 % 8).toNat = (int, data, (rest.length : Int) + (V.length : Int), 0) := by
        rw [hv]
        dsimp only
        rw [m8]
        exact hs
      rw [getGo_more hl he (by rw [hv]; dsimp only; rw [d8]; omega) (by rw [hB]), hB, hv]
      dsimp only
      rw [d8, m8, getGo_end (by simp only [List.length_append]; omega)]
      rfl
  unfold fdput
  rcases hk with ⟨rfl, h1, rfl⟩ | ⟨rfl, h1, rfl⟩ | ⟨rfl, h1, rfl⟩ | ⟨rfl, rfl, h1⟩
  · rw [if_pos rfl]
    refine key _ (by omega) ?_
    have := varint_own int [] h1
    rw [List.append_nil] at this
    unfold bodyS
    rw [if_pos (by rfl), this]
    simp
  · simp only [Int.reduceEq, if_false, if_true]
    refine key _ (by omega) ?_
    unfold bodyS
    rw [if_neg (by decide), if_neg (by decide), if_pos (by decide), if_neg (by rw [le_len]; decide), List.drop_zero, List.take_of_length_le (by rw [le_len]; omega), lowN_le _ _ h1, le_len]
  · simp only [Int.reduceEq, if_false, if_true]
    refine key _ (by omega) ?_
    unfold bodyS
    rw [if_neg (by decide), if_neg (by decide), if_neg (by decide), if_pos (by decide), if_neg (by rw [le_len]; decide), List.drop_zero, List.take_of_length_le (by rw [le_len]; omega), lowN_le _ _ h1, le_len]
  · simp only [Int.reduceEq, if_false, if_true]
    refine key _ (by omega) ?_
    have hv := varint_own data.length data h1
    unfold bodyS
    rw [if_neg (by decide), if_pos (by decide), hv]
    dsimp only
    rw [if_neg (by decide), if_neg (by simp only [List.length_append]; omega)]
    simp only [Int.toNat_natCast, Prod.mk.injEq, true_and, and_true]
    refine ⟨?_, by simp only [List.length_append]; omega⟩
    have := drop_sh (vput 9 data.length) data 0
    simp only [Nat.add_zero, List.drop_zero] at this
    rw [this, List.take_length]
theorem get_put (l : List FD) : (∀ f ∈ l, f.good) → get (l.flatMap fdput) = (l, 0) := by
  induction l with
  | nil => intro _; rfl
  | cons f l ih =>
    intro h
    rw [List.flatMap_cons, get_app _ _ (get_one (h f (by simp))), ih (fun g hg => h g (by simp [hg]))]
    simp [shG]

theorem pow_nat {v : Int} {m : Nat} (h0 : 0 ≤ v) (h : v < 128 ^ m) : v.toNat < 128 ^ m := by
  have e : ((128 ^ m : Nat) : Int) = (128 : Int) ^ m := by simp
  omega
theorem fdput_len {b : List UInt8} {k kind n : Nat} {d : List UInt8} {nx : Int} {num : Int} (hk : k ≤ b.length) (h : bodyS b k kind = (n, d, nx, 0)) (hkd : kind < 8) (hn : 1 ≤ num ∧ num ≤ 536870911) (hl : b.length ≤ 1000000) :
    FD.good ⟨num, kind, n, d⟩ ∧ ((fdput ⟨num, kind, n, d⟩).length : Int) ≤ (vput 9 (num * 8 + kind).toNat).length + (nx - k) := by
  have e : (num % 536870912 * 8 + (kind : Int) % 8).toNat = (num * 8 + kind).toNat := by omega
  have hok := bodyS_ok hk h
  unfold bodyS at h
  unfold fdput
  dsimp only
  rw [e]
  split at h
  · rename_i h0
    subst h0
    simp only [Prod.mk.injEq] at h
    obtain ⟨rfl, rfl, rfl, he⟩ := h
    have hv : varint b k = ((varint b k).1, (varint b k).2.1, 0) := by rw [← he]
    have h1 := varint_ok hv
    obtain ⟨h2, m, h3, h4, h5⟩ := varint_bd hv
    refine ⟨⟨hn, Or.inl ⟨rfl, by show (varint b k).1.toNat < _; omega, rfl⟩⟩, ?_⟩
    have := vput_min 9 (varint b k).1.toNat m h5 (pow_nat h1.1 h4)
    simp only [Int.cast_ofNat_Int, ↓reduceIte, List.length_append]
    omega
  · split at h
    · rename_i h2
      subst h2
      split at h
      · simp only [Prod.mk.injEq] at h; rename_i h1; exact absurd h.2.2.2 h1
      · rename_i he
        have he : (varint b k).2.2 = 0 := by simpa using he
        have hv : varint b k = ((varint b k).1, (varint b k).2.1, 0) := by rw [← he]
        have h1 := varint_ok hv
        obtain ⟨h2, m, h3, h4, h5⟩ := varint_bd hv
        split at h
        · simp at h
        · simp only [Prod.mk.injEq] at h
          obtain ⟨rfl, rfl, rfl, -⟩ := h
          have hlen : ((b.drop (varint b k).2.1.toNat).take (varint b k).1.toNat).length = (varint b k).1.toNat := by simp; omega
          refine ⟨⟨hn, Or.inr (Or.inr (Or.inr ⟨rfl, rfl, by show ((b.drop (varint b k).2.1.toNat).take (varint b k).1.toNat).length < _; omega⟩))⟩, ?_⟩
          have := vput_min 9 (varint b k).1.toNat m h5 (pow_nat h1.1 h4)
          simp only [Int.cast_ofNat_Int, Int.reduceEq, ↓reduceIte, List.length_append]
          rw [hlen]
          omega
    · split at h
      · rename_i h1
        subst h1
        split at h
        · simp at h
        · simp only [Prod.mk.injEq] at h
          obtain ⟨rfl, rfl, rfl, -⟩ := h
          have := lowN_lt ((b.drop k).take 8)
          rw [List.length_take, List.length_drop, Nat.min_eq_left (by omega)] at this
          refine ⟨⟨hn, Or.inr (Or.inl ⟨rfl, this, rfl⟩)⟩, ?_⟩
          simp only [Int.cast_ofNat_Int, Int.reduceEq, ↓reduceIte, List.length_append, le_len]
          omega
      · split at h
        · rename_i h1
          subst h1
          split at h
          · simp at h
          · simp only [Prod.mk.injEq] at h
            obtain ⟨rfl, rfl, rfl, -⟩ := h
            have := lowN_lt ((b.drop k).take 4)
            rw [List.length_take, List.length_drop, Nat.min_eq_left (by omega)] at this
            refine ⟨⟨hn, Or.inr (Or.inr (Or.inl ⟨rfl, this, rfl⟩))⟩, ?_⟩
            simp only [Int.cast_ofNat_Int, Int.reduceEq, ↓reduceIte, List.length_append, le_len]
            omega
        · simp at h
theorem getGo_good (b : List UInt8) (hl : b.length ≤ 1000000) : ∀ (f k : Nat) (acc r : List FD), k ≤ b.length → getGo b f k acc = (r, 0) → ∃ l, r = acc ++ l ∧ (∀ f ∈ l, f.good) ∧ k + (l.flatMap fdput).length ≤ b.length := by
  intro f
  induction f with
  | zero => intro k acc r hk h; simp only [getGo, Prod.mk.injEq, and_true] at h; exact ⟨[], by simp [h], by simp, by simpa using hk⟩
  | succ f ih =>
    intro k acc r hka h
    by_cases hk : b.length ≤ k
    · rw [getGo_end hk] at h
      injection h with h _
      exact ⟨[], by simp [h], by simp, by simpa using hka⟩
    · by_cases he : (varint b k).2.2 = 0
      · have hv : varint b k = ((varint b k).1, (varint b k).2.1, 0) := by rw [← he]
        have h1 := varint_ok hv
        obtain ⟨h2, m, h3, h4, h5⟩ := varint_bd hv
        by_cases hn : (varint b k).1 / 8 < 1 ∨ 536870911 < (varint b k).1 / 8
        · rw [getGo_num hk he hn] at h; simp at h
        · by_cases hb : (bodyS b (varint b k).2.1.toNat ((varint b k).1 % 8).toNat).2.2.2 = 0
          · rw [getGo_more hk he hn hb] at h
            have hB : bodyS b (varint b k).2.1.toNat ((varint b k).1 % 8).toNat = ((bodyS b (varint b k).2.1.toNat ((varint b k).1 % 8).toNat).1, (bodyS b (varint b k).2.1.toNat ((varint b k).1 % 8).toNat).2.1, (bodyS b (varint b k).2.1.toNat ((varint b k).1 % 8).toNat).2.2.1, 0) := by rw [← hb]
            have ho := bodyS_ok (by omega) hB
            have hf := fdput_len (num := (varint b k).1 / 8) (by omega) hB (by omega) (by omega) hl
            have hm := vput_min 9 (varint b k).1.toNat m h5 (pow_nat h1.1 h4)
            have ek : (((varint b k).1 % 8).toNat : Int) = (varint b k).1 % 8 := by omega
            rw [ek] at hf
            have ev : ((varint b k).1 / 8 * 8 + (varint b k).1 % 8).toNat = (varint b k).1.toNat := by omega
            rw [ev] at hf
            obtain ⟨l, rfl, hg, hlen⟩ := ih _ _ _ (by omega) h
            refine ⟨⟨(varint b k).1 / 8, (varint b k).1 % 8, (bodyS b (varint b k).2.1.toNat ((varint b k).1 % 8).toNat).1, (bodyS b (varint b k).2.1.toNat ((varint b k).1 % 8).toNat).2.1⟩ :: l, by simp, ?_, ?_⟩
            · intro g hg2
              rcases List.mem_cons.1 hg2 with rfl | hg2
              · exact hf.1
              · exact hg g hg2
            · rw [List.flatMap_cons, List.length_append]
              have := hf.2
              omega
          · rw [getGo_body hk he hn hb] at h; simp only [Prod.mk.injEq] at h; exact absurd h.2 hb
      · rw [getGo_err hk he] at h; simp only [Prod.mk.injEq] at h; exact absurd h.2 he
/-- P7.4: what is got, and put, is no longer, and got again -/
theorem put_get {b : List UInt8} (hl : b.length ≤ 1000000) {l : List FD} (h : get b = (l, 0)) : (l.flatMap fdput).length ≤ b.length ∧ get (l.flatMap fdput) = (l, 0) ∧ ∀ f ∈ l, f.good := by
  obtain ⟨l', h1, h2, h3⟩ := getGo_good b hl _ _ _ _ (Nat.zero_le _) h
  rw [List.nil_append] at h1
  subst h1
  exact ⟨by omega, get_put _ h2, h2⟩
theorem getGo_bad (b : List UInt8) : ∀ (f k : Nat) (acc : List FD), (getGo b f k acc).2 = 0 ∨ (getGo b f k acc).1 = [] := by
  intro f
  induction f with
  | zero => intro k acc; exact Or.inl rfl
  | succ f ih =>
    intro k acc
    by_cases hk : b.length ≤ k
    · rw [getGo_end hk]; exact Or.inl rfl
    · by_cases he : (varint b k).2.2 = 0
      · by_cases hn : (varint b k).1 / 8 < 1 ∨ 536870911 < (varint b k).1 / 8
        · rw [getGo_num hk he hn]; exact Or.inr rfl
        · by_cases hb : (bodyS b (varint b k).2.1.toNat ((varint b k).1 % 8).toNat).2.2.2 = 0
          · rw [getGo_more hk he hn hb]; exact ih _ _
          · rw [getGo_body hk he hn hb]; exact Or.inr rfl
      · rw [getGo_err hk he]; exact Or.inr rfl
theorem get_bad {b : List UInt8} (h : (get b).2 ≠ 0) : (get b).1 = [] := (getGo_bad b _ _ _).resolve_left h
end Go.Proofs.YtjalimkajcjapaaDoor
