import Derived.Test.YteeeeddeacepmaaGreatDoorChecked
import Derived.Test.YteeeeddeacepmaaGreatDoorCore
import Derived.Deep.OwnRows
namespace Go.Proofs.YteeeeddeacepmaaGreatDoor
set_option maxRecDepth 100000
def wds (n : Nat) : List Nat := if h : n = 0 then [] else n % 65536 :: wds (n / 65536)
termination_by n
decreasing_by omega
theorem wds_zero : wds 0 = [] := by unfold wds; simp
theorem wds_pos {n : Nat} (h : n ≠ 0) : wds n = n % 65536 :: wds (n / 65536) := by rw [wds, dif_neg h]
def vw : List Nat -> Nat
 | [] => 0
 | x :: t => x + 65536 * vw t
def Wd (l : List Nat) : Prop := ∀ x ∈ l, x < 65536
theorem vw_wds : ∀ n, vw (wds n) = n := by
 intro n
 induction n using Nat.strongRecOn with
 | _ n ih =>
  by_cases h : n = 0
  ·subst h; rw [wds_zero]; rfl
  ·rw [wds_pos h, vw, ih _ (by omega)]; omega
theorem wd_wds : ∀ n, Wd (wds n) := by
 intro n
 induction n using Nat.strongRecOn with
 | _ n ih =>
  by_cases h : n = 0
  ·subst h; rw [wds_zero]; intro x hx; simp at hx
  ·rw [wds_pos h]
   intro x hx; rcases List.mem_cons.1 hx with rfl | hx
   ·omega
   ·exact ih _ (by omega) x hx
theorem vw_app : ∀ a b : List Nat, vw (a ++ b) = vw a + 65536 ^ a.length * vw b
 | [], b => by simp [vw]
 | x :: a, b => by
  simp only [List.cons_append, vw, vw_app a b, List.length_cons, Nat.pow_succ]; rw [Nat.mul_add, <- Nat.mul_assoc, Nat.mul_comm 65536 (65536 ^ a.length)]; omega
theorem vw_lt : ∀ a : List Nat, Wd a -> vw a < 65536 ^ a.length
 | [], _ => by decide
 | x :: a, h => by
  have := vw_lt a (fun y hy => h y (by simp [hy])); have hx := h x (by simp); simp only [vw, List.length_cons, Nat.pow_succ]; omega
theorem wds_len_le : ∀ (k n : Nat), n < 65536 ^ k -> (wds n).length <= k := by
 intro k
 induction k with
 | zero => intro n h; simp at h; subst h; rw [wds_zero]; simp
 | succ k ih =>
  intro n h
  by_cases h0 : n = 0
  ·subst h0; rw [wds_zero]; simp
  ·rw [wds_pos h0, List.length_cons]
   have := ih (n / 65536) (by rw [Nat.pow_succ] at h; omega); omega
theorem wds_len_lt (n : Nat) : n < 65536 ^ (wds n).length := by
 have := vw_lt _ (wd_wds n)
 rwa [vw_wds] at this
theorem vw_zero : ∀ l : List Nat, (∀ x ∈ l, x = 0) -> vw l = 0
 | [], _ => rfl
 | x :: l, h => by
  have := vw_zero l (fun y hy => h y (by simp [hy])); have hx := h x (by simp); simp only [vw]; omega
theorem vw_ge : ∀ (l : List Nat) (n : Nat) (hn : n < l.length), l[n] ≠ 0 -> 65536 ^ n <= vw l := by
 intro l
 induction l with
 | nil => intro n hn; simp at hn
 | cons x l ih =>
  intro n hn h
  cases n with
  | zero => simp at h; simp [vw]; omega
  | succ n =>
   have := ih n (by simpa using hn) (by simpa using h); simp only [vw, Nat.pow_succ]; omega
theorem wds_vw : ∀ l : List Nat, Wd l -> (∀ h : 0 < l.length, l[l.length - 1] ≠ 0) -> wds (vw l) = l
 | [], _, _ => wds_zero
 | x :: l, hw, hl => by
  have hx := hw x (by simp); have hwl : Wd l := fun y hy => hw y (by simp [hy])
  have h0 : vw (x :: l) ≠ 0 := by
   have := vw_ge (x :: l) l.length (by simp) (by have := hl (by simp); simpa using this); have : 0 < 65536 ^ l.length := Nat.pow_pos (by decide); omega
  rw [wds_pos h0]; have h1 : vw (x :: l) % 65536 = x := by simp only [vw]; omega
  have h2 : vw (x :: l) / 65536 = vw l := by simp only [vw]; omega
  rw [h1, h2, wds_vw l hwl (fun h => by
   have := hl (by simp); simp only [List.length_cons, Nat.add_sub_cancel] at this; rw [List.getElem_cons] at this
   simpa [show l.length ≠ 0 by omega] using this)]
theorem wds_last (n : Nat) (h : 0 < (wds n).length) : (wds n)[(wds n).length - 1] ≠ 0 := by
 induction n using Nat.strongRecOn with
 | _ n ih =>
  by_cases h0 : n = 0
  ·subst h0; rw [wds_zero] at h; simp at h
  ·by_cases h1 : n / 65536 = 0
   ·have e : wds n = [n % 65536] := by rw [wds_pos h0, h1, wds_zero]
    simp only [e]; simp; omega
   ·have hl : 0 < (wds (n / 65536)).length := by rw [wds_pos h1]; simp
    have := ih (n / 65536) (by omega) hl; simp only [wds_pos h0, List.length_cons, Nat.add_sub_cancel]; rw [List.getElem_cons]; simpa [show (wds (n / 65536)).length ≠ 0 by omega] using this
theorem wds_take {l : List Nat} (hw : Wd l) {n : Nat} (hn : n <= l.length) (h0 : ∀ x ∈ l.drop n, x = 0) (hl : n = 0 ∨ ∃ h : n - 1 < l.length, l[n - 1] ≠ 0) : l.take n = wds (vw l) := by
 have e : vw l = vw (l.take n) := by
  have := vw_app (l.take n) (l.drop n); rw [List.take_append_drop, vw_zero _ h0] at this; omega
 rw [e, wds_vw (l.take n) (fun x hx => hw x (List.mem_of_mem_take hx))]; intro h
 rcases hl with rfl | ⟨h1, h2⟩
 ·simp at h
 ·have e2 : (l.take n).length = n := by simp [Nat.min_eq_left hn]
  simp only [e2, List.getElem_take]; exact h2
theorem vw_drop {l : List Nat} {k : Nat} (hk : k < l.length) : vw (l.drop k) = l[k] + 65536 * vw (l.drop (k + 1)) := by
 rw [List.drop_eq_getElem_cons hk]; rfl
theorem vw_take {l : List Nat} {k : Nat} (hk : k < l.length) : vw (l.take (k + 1)) = vw (l.take k) + 65536 ^ k * l[k] := by
 rw [List.take_succ_eq_append_getElem hk, vw_app]; simp [vw, Nat.min_eq_left (Nat.le_of_lt hk)]
theorem vw_set : ∀ (l : List Nat) (j y : Nat) (hj : j < l.length), vw (l.set j y) + 65536 ^ j * l[j] = vw l + 65536 ^ j * y := by
 intro l
 induction l with
 | nil => intro j y hj; simp at hj
 | cons x l ih =>
  intro j y hj
  cases j with
  | zero => simp [vw]; omega
  | succ j =>
   have := ih j y (by simpa using hj); simp only [sS, vw, List.getElem_cons_succ, Nat.pow_succ]; have e1 : 65536 ^ j * 65536 * l[j]'(by simpa using hj) = 65536 * (65536 ^ j * l[j]'(by simpa using hj)) := by rw [Nat.mul_right_comm, Nat.mul_comm, ]
   have e2 : 65536 ^ j * 65536 * y = 65536 * (65536 ^ j * y) := by rw [Nat.mul_right_comm, Nat.mul_comm]
   rw [e1, e2]; omega
theorem wd_set {l : List Nat} (hw : Wd l) {j y : Nat} (hy : y < 65536) : Wd (l.set j y) := fun x hx => by
 rcases List.mem_or_eq_of_mem_set hx with h | rfl
 ·exact hw x h
 ·exact hy
theorem wd_snoc {l : List Nat} (hw : Wd l) {y : Nat} (hy : y < 65536) : Wd (l ++ [y]) := fun x hx => by
 rcases List.mem_append.1 hx with h | h
 ·exact hw x h
 ·rw [List.mem_singleton.1 h]; exact hy
theorem vw_len_lt {a b : Nat} (h : (wds a).length < (wds b).length) : a < b := by
 have h1 := wds_len_lt a; have h2 := vw_ge (wds b) ((wds b).length - 1) (by omega) (wds_last b (by omega)); rw [vw_wds] at h2; have h3 : 65536 ^ (wds a).length <= 65536 ^ ((wds b).length - 1) := Nat.pow_le_pow_right (by decide) (by omega); omega
theorem vw_below {a b : List Nat} (ha : Wd a) {n : Nat} (hn : n < a.length) (hn2 : n < b.length) (he : a.drop (n + 1) = b.drop (n + 1)) (hlt : a[n] < b[n]) : vw a < vw b := by
 have e1 := vw_app (a.take n) (a.drop n); have e2 := vw_app (b.take n) (b.drop n); rw [List.take_append_drop, vw_drop hn, he, List.length_take, Nat.min_eq_left (Nat.le_of_lt hn)] at e1; rw [List.take_append_drop, vw_drop hn2, List.length_take, Nat.min_eq_left (Nat.le_of_lt hn2)] at e2; have h1 := vw_lt (a.take n) (fun x hx => ha x (List.mem_of_mem_take hx)); rw [List.length_take, Nat.min_eq_left (Nat.le_of_lt hn)] at h1; generalize 65536 * vw (b.drop (n + 1)) = X at *
 have h2 : 65536 ^ n * (a[n] + X) + 65536 ^ n <= 65536 ^ n * (b[n] + X) := by
  have := Nat.mul_le_mul_left (65536 ^ n) (show a[n] + X + 1 <= b[n] + X by omega); rw [Nat.mul_add _ _ 1] at this; omega
 omega
theorem wds_mul_len (a b : Nat) : (wds (a * b)).length <= (wds a).length + (wds b).length := by
 refine wds_len_le _ _ ?_; have h1 := wds_len_lt a; have h2 := wds_len_lt b; rw [Nat.pow_add]; exact Nat.mul_lt_mul'' h1 h2
theorem wds_add_len (a b : Nat) : (wds (a + b)).length <= max (wds a).length (wds b).length + 1 := by
 refine wds_len_le _ _ ?_; have h1 := wds_len_lt a; have h2 := wds_len_lt b; have h3 : 65536 ^ (wds a).length <= 65536 ^ max (wds a).length (wds b).length := Nat.pow_le_pow_right (by decide) (Nat.le_max_left _ _); have h4 : 65536 ^ (wds b).length <= 65536 ^ max (wds a).length (wds b).length := Nat.pow_le_pow_right (by decide) (Nat.le_max_right _ _); rw [Nat.pow_succ]; omega
theorem wds_le_len {a b : Nat} (h : a <= b) : (wds a).length <= (wds b).length := wds_len_le _ _ (Nat.lt_of_le_of_lt h (wds_len_lt b))
end Go.Proofs.YteeeeddeacepmaaGreatDoor
namespace Go.Proofs.YteeeeddeacepmaaGreatDoor
set_option maxRecDepth 100000
open Go.RowKit Go.Lib
def W64 (l : List Nat) : List Value := l.map fun (n : Nat) => .int .u64 n
theorem W64_len (l : List Nat) : (W64 l).length = l.length := by simp [W64]
theorem W64_at (l : List Nat) (k : Nat) (h : k < l.length) : (W64 l)[k]? = some (.int .u64 (l[k] : Nat)) := by simp [W64, h]
theorem W64_app (l m : List Nat) : W64 (l ++ m) = W64 l ++ W64 m := by simp [W64]
theorem W64_take (l : List Nat) (k : Nat) : W64 (l.take k) = (W64 l).take k := by simp [W64]
theorem W64_set (l : List Nat) (k n : Nat) : W64 (l.set k n) = (W64 l).set k (.int .u64 n) := by simp [W64, List.map_set]
theorem el_w64 : Elem Tryz.prog 38 25 (.int .u64 0) 1 8 := ⟨by kernel_rfl, by kernel_rfl, rfl, by decide, by decide⟩
def BigR (w : World) (S : Nat -> Prop) (v : Value) (z : Int) (k : Nat) : Prop :=
 (wds z.natAbs).length <= k /\ ∃ m, v = .agg #[.bool (decide (z < 0)), m] /\ Rd w S 1 m (wds z.natAbs).length (W64 (wds z.natAbs))
theorem Rd.set {w : World} {S : Nat -> Prop} {size n : Nat} {v : Value} {xs : List Value} (h : Rd w S size v n xs) {B j : Nat} (hB : ∀ b, S b -> b ≠ B) (u : Value) : Rd (w.setCell ⟨B, j, none⟩ u) S size v n xs :=
 h.keep fun b hb => by simp [World.setCell, Array.getElem?_modify, (hB b hb).symm]
theorem BigR.gr {w w' : World} {S : Nat -> Prop} {v : Value} {z : Int} {k : Nat} (h : BigR w S v z k) (hg : Grow w w') : BigR w' S v z k := by
 obtain ⟨h1, m, h2, h3⟩ := h; exact ⟨h1, m, h2, h3.gr2 (by decide) hg⟩
theorem BigR.up {w : World} {S : Nat -> Prop} {v : Value} {z : Int} {k k' : Nat} (h : BigR w S v z k) (hk : k <= k') : BigR w S v z k' := ⟨Nat.le_trans h.1 hk, h.2⟩
theorem BigR.into {w : World} {S T : Nat -> Prop} {v : Value} {z : Int} {k : Nat} (h : BigR w S v z k) (hk : ∀ b, S b -> T b) : BigR w T v z k := by
 obtain ⟨h1, m, h2, h3⟩ := h; exact ⟨h1, m, h2, h3.into hk⟩
theorem BigR.lt {w : World} {S : Nat -> Prop} {v : Value} {z : Int} {k : Nat} (h : BigR w S v z k) : BigR w (· < w.heap.size) v z k := by
 obtain ⟨h1, m, h2, h3⟩ := h; exact ⟨h1, m, h2, h3.lt (by decide)⟩
theorem BigR.set {w : World} {S : Nat -> Prop} {v : Value} {z : Int} {k : Nat} (h : BigR w S v z k) {B j : Nat} (hB : ∀ b, S b -> b ≠ B) (u : Value) : BigR (w.setCell ⟨B, j, none⟩ u) S v z k := by
 obtain ⟨h1, m, h2, h3⟩ := h; exact ⟨h1, m, h2, h3.set hB u⟩
theorem blk_set {W : World} {B : Nat} {cs : Array Value} {t : TypeId} (h : W.heap[B]? = some (.cells cs t (0, 0))) (j : Nat) (v : Value) : (W.setCell ⟨B, j, none⟩ v).heap[B]? = some (.cells (cs.setIfInBounds j v) t (0, 0)) := by
 simp [World.setCell, Array.getElem?_modify, h]
theorem grow_blk {W W' : World} (hg : Grow W W') {B : Nat} {o : Obj} (h : W.heap[B]? = some o) : W'.heap[B]? = some o := (hg.block B (lt_of_block h)).trans h
theorem blk_al (w : World) (cs : Array Value) (t : TypeId) {w' : World} (hg : Grow (w.alloc (.cells cs t)) w') : w'.heap[w.heap.size]? = some (.cells cs t (0, 0)) := grow_blk hg (heap_alloc_new _ _)
theorem grow_set2 {w W : World} {B : Nat} (hB : w.heap.size <= B) (hg : Grow w W) (u0 u1 : Value) : Grow w ((W.setCell ⟨B, 0, none⟩ u0).setCell ⟨B, 1, none⟩ u1) :=
 (hg.set (p := ⟨B, 0, none⟩) hB u0).set (p := ⟨B, 1, none⟩) hB u1
set_option maxHeartbeats 1000000 in
theorem word_any (n : Nat) (w : World) (hn : n < 18446744073709551616) {R : Ending -> World -> Prop}
  (hR : ∀ v w', Grow w w' -> BigR w' (fun b => w.heap.size <= b) v n 4 -> R (.returned v) w') :
  Calls Tryz.prog 27 #[.int .u64 n] w R := by
 have HR := Lh hR; clear hR; have HL := Lh (wds_len_le 4 n (by simpa using hn)); go_enter Tryz.func27, Tryz.ntmps27
 go_wp2
 go_loopw [0, 3] (fun s0 s3 wr => ∃ (n' : Nat) (done : List Nat), s0 = .int .u64 n' /\ n' < 18446744073709551616 /\ Hid (wds n = done ++ wds n') /\ done.length <= 4 /\ wr.ownsRow (w.heap.size + 1) 25 1 s3 done.length (W64 done) /\ Hid (Grow (w.alloc (.cells #[.bool false, .slice none 0 0] 40)) wr)) (fun s0 _ _ => (intOf s0).toNat)
 case atStart => exact ⟨n, [], rfl, hn, rfl, by simp, World.ownsRow_nil _ _ _ _, Grow.refl _⟩
 case round =>
  obtain ⟨n', done, rfl, hn', hd, hl, hown, hg⟩ := hrel; obtain ⟨A, c, rfl⟩ := own_slice hown
  by_cases h0 : n' = 0
  ·subst h0
   have hb := blk_al w _ _ hg.out; have c0 := cell_of_row _ w.heap.size 0 _ _ (0, 0) hb; have f0 := frozen_of_row _ w.heap.size 0 _ _ hb; have b1 := blk_set hb 0 (.bool false); have c1 := cell_of_row _ w.heap.size 1 _ _ (0, 0) b1; have f1 := frozen_of_row _ w.heap.size 1 _ _ b1; have b2 := blk_set b1 1 (.slice A done.length c); have r0 := cell_of_row _ w.heap.size 0 _ _ (0, 0) b2; have r1 := cell_of_row _ w.heap.size 1 _ _ (0, 0) b2; simp only [sA, sZ, sS] at c0 c1 r0 r1; clear b1 b2; have HO := Lh hown; clear hown hb; go_wp2
   refine bodyPost_ret (v := .agg #[.bool false, .slice A done.length c]) (by simp [results, Tryz.f27, go_sem, r0, r1]) rfl (HR.out _ _ ?_ ?_)
   ·exact grow_set2 (Nat.le_refl _) (((Grow.refl w).al _).tr hg.out) _ _
   ·have e := hd.out
    rw [wds_zero, List.append_nil] at e; have hs := ((Rd.own_from HO.out).set (B := w.heap.size) (j := 0) (fun b hb => by omega) (.bool false)).set (B := w.heap.size) (j := 1) (fun b hb => by omega) (.slice A done.length c); refine ⟨by simpa using HL.out, .slice A done.length c, by simp, ?_⟩; rw [Int.natAbs_natCast, e]; exact hs.into fun b hb => by omega
  ·have h64 : Hid (done.length + 1 <= 4) := by
    have := HL.out; rw [hd.out, wds_pos h0] at this; simp at this
    show _ <= _; omega
   have HD := Lh (wds_pos h0); have hgs : w.heap.size + 1 <= wr.heap.size := by have := hg.out.size; rw [World.size_alloc] at this; exact this
   go_wp2_with (at_builtin; refine wpList_new (w0 := w.alloc (.cells #[.bool false, .slice none 0 0] 40)) rfl _ _ rfl el_w64 hown rfl 1 _ rfl (by decide) rfl (by simp [Value.oneCell']) (by omega) hg.out ⟨by rw [World.size_alloc]; omega, hgs⟩ ?_; intro v1 w1 hown1 hg1 hgr1 hb1; have HG1 := Lh hg1; clear hg1 hgr1 hb1)
   go_roundw
   case rel =>
    refine ⟨n' / 65536, done ++ [n' % 65536], by go_num, by omega, ?_, by have := h64.out; simpa using this, own_eq hown1 (by simp) ?_, HG1⟩
    ·show _ = _
     rw [hd.out, HD.out]; simp
    ·rw [W64_app]; rfl
   case measure => simp [intOf]; omega
set_option maxHeartbeats 1000000 in
theorem cut_any (l : List Nat) (v : Value) (S : Nat -> Prop) (w : World) (hb : Rd w S 1 v l.length (W64 l)) (hw : Wd l) (hl : l.length <= 100000) {R : Ending -> World -> Prop}
  (hR : ∀ r, Rd w S 1 r (wds (vw l)).length (W64 (wds (vw l))) -> R (.returned r) w) :
  Calls Tryz.prog 61 #[v] w R := by
 have HR := Lh hR; clear hR; have HB := Lh hb; obtain ⟨_, A, c, rfl, h1, h2, h3, h4⟩ := hb; unfold maxLen at h2; have HW := Lh hw; clear hw; go_enter Tryz.func61, Tryz.ntmps61
 go_wp2
 go_loopw [3] (fun s3 wr => ∃ k : Nat, k <= l.length /\ s3 = .int .i64 k /\ Hid (∀ x ∈ l.drop k, x = 0) /\ wr = w) (fun s3 _ => (intOf s3).toNat)
 case atStart => exact ⟨l.length, Nat.le_refl _, rfl, by show ∀ x ∈ _, _; simp, rfl⟩
 case round =>
  obtain ⟨k, hk, rfl, hz, rfl⟩ := hrel
  have fin : Hid ((k = 0 ∨ ∃ h : k - 1 < l.length, l[k - 1] ≠ 0) -> R (.returned (.slice A k c)) wr) := by
   intro h; have e := wds_take HW.out hk hz.out h; refine HR.out _ ?_; rw [<- e, W64_take]; obtain ⟨g1, A', c', g2, g3, g4, g5, g6⟩ := HB.out; injection g2 with e1 _ e2
   subst e1 e2; have hlen : (l.take k).length = k := by simp [Nat.min_eq_left hk]
   rw [hlen]; refine ⟨by simp [W64_len, Nat.min_eq_left hk], _, _, rfl, by omega, g4, g5, fun hn => ?_⟩; obtain ⟨b, o, e1, e2, e3⟩ := g6 (by omega); refine ⟨b, o, e1, e2, fun j x hx => e3 j x ?_⟩; rw [List.getElem?_take] at hx
   split at hx
   ·exact hx
   ·simp at hx
  rcases Nat.eq_zero_or_pos k with h0 | h0
  ·subst h0
   have h := fin.out (Or.inl rfl); clear fin h4 h3; go_wp2; exact h
  ·obtain ⟨j, rfl⟩ : ∃ j, k = j + 1 := ⟨k - 1, by omega⟩
   have hlt : j < l.length := by omega
   obtain ⟨b, o, rfl, _, hc⟩ := h4 (by omega); have c1 := hc j _ (W64_at l j hlt); have hsub : (((j + 1 : Nat) : Int) - 1) = (j : Int) := by omega
   have HZ : Hid (l[j]'hlt = 0 -> ∀ x ∈ l.drop j, x = 0) := by
    intro h x hx; rw [List.drop_eq_getElem_cons hlt] at hx; rcases List.mem_cons.1 hx with rfl | hx
    ·exact h
    ·exact hz.out x hx
   have HF : Hid (l[j]'hlt ≠ 0 -> R (.returned (.slice (some ⟨b, o, none⟩) (j + 1) c)) wr) := fun h => fin.out (Or.inr ⟨by simpa using hlt, by simpa using h⟩)
   clear hc h4 h3 fin hz; generalize l[j]'hlt = x at *
   by_cases hx : x = 0
   ·subst hx
    have HZ := Lh (HZ.out rfl); clear HF; go_wp2; go_roundw
    case rel => exact ⟨j, by omega, by go_num, HZ.out, by first | rfl | trivial⟩
    case measure => simp [intOf] <;> omega
   ·have t1 : ((x : Int) == 0) = false := by rw [beq_eq_false_iff_ne]; omega
    have HF := Lh (HF.out hx); clear HZ hx; go_wp2; exact HF.out
theorem Rd.both {w : World} {S : Nat -> Prop} {size n : Nat} {v : Value} {xs : List Value} (h : Rd w S size v n xs) (h0 : 0 < size) : Rd w (fun b => S b /\ b < w.heap.size) size v n xs := by
 have hl := h.lt h0; obtain ⟨hl0, A, c, hv, h1, h2, h3, h4⟩ := h; refine ⟨hl0, A, c, hv, h1, h2, h3, fun hn => ?_⟩; obtain ⟨b, o, hA, hSb, hc⟩ := h4 hn; have hx : 0 < xs.length := by rw [hl0]; exact Nat.mul_pos hn h0
 exact ⟨b, o, hA, ⟨hSb, World.block_lt_of_cell? w _ (hc 0 xs[0] (List.getElem?_eq_getElem hx))⟩, hc⟩
theorem wds_len_pos (n : Nat) : 0 < (wds n).length ↔ n ≠ 0 := by
 by_cases h : n = 0
 ·subst h; rw [wds_zero]; simp
 ·rw [wds_pos h]; simp [h]
theorem rd_slice {w : World} {S : Nat -> Prop} {size n : Nat} {v : Value} {xs : List Value} (h : Rd w S size v n xs) : ∃ A c, v = .slice A n c /\ n <= c /\ c <= 9223372036854775807 := by
 obtain ⟨_, A, c, h, h1, h2, _⟩ := h; exact ⟨A, c, h, h1, h2⟩
def sg (neg : Bool) (n : Nat) : Int := if neg then -(n : Int) else n
theorem sg_abs (neg : Bool) (n : Nat) : (sg neg n).natAbs = n := by cases neg <;> simp [sg]
theorem sg_neg (neg : Bool) (n : Nat) : decide (sg neg n < 0) = (neg && decide ((0 : Int) < ((wds n).length : Nat))) := by
 have h := wds_len_pos n
 cases neg
 ·simp [sg]
 ·simp only [sg, if_true, Bool.true_and, decide_eq_decide]
  omega
theorem rd_alloc2 {w : World} {S : Nat -> Prop} {o o' : Obj} {size n : Nat} {v : Value} {xs : List Value} (h : Rd (w.alloc o) (fun b => S b /\ b < w.heap.size) size v n xs) : Rd (w.alloc o') (fun b => S b /\ b < w.heap.size) size v n xs :=
 h.keep fun b hb => (((Grow.refl w).al o').block b hb.2).trans (((Grow.refl w).al o).block b hb.2).symm
set_option maxHeartbeats 1000000 in
theorem made_any (neg : Bool) (l : List Nat) (v : Value) (S : Nat -> Prop) (w : World) (hb : Rd w S 1 v l.length (W64 l)) (hw : Wd l) (hl : l.length <= 100000) {R : Ending -> World -> Prop}
  (hR : ∀ r w', Grow w w' -> BigR w' (fun b => S b /\ b < w.heap.size) r (sg neg (vw l)) (wds (vw l)).length -> R (.returned r) w') :
  Calls Tryz.prog 42 #[.bool neg, v] w R := by
 have HR := Lh hR; have HB := Lh (hb.both (by decide)); have HW := Lh hw; clear hR hb hw; have hal : Hid (Grow w (w.alloc (.cells #[.bool false, .slice none 0 0] 40))) := (Grow.refl w).al _; have C := Lh fun (R : Ending -> World -> Prop) hR => cut_any l v _ _ (HB.out.gr2 (by decide) hal.out) HW.out hl (R := R) hR
 have hgn := sg_neg neg (vw l); generalize hG : (wds (vw l)).length = n at *
 obtain ⟨Z, hZ⟩ : ∃ Z, Z = W64 (wds (vw l)) := ⟨_, rfl⟩
 have HG := Lh hG; have HGN := Lh hgn; clear hG hgn; rw [<- hZ] at C; have HZ := Lh hZ; clear hZ
 cases neg with
 | false =>
  go_enter Tryz.func42, Tryz.ntmps42
  go_wp2_with fail
  go_at_call 61; refine C.out _ ?_; intro r hr; obtain ⟨A, c, rfl, h1, h2⟩ := rd_slice hr; have HC := Lh hr; clear hr; go_wp2; refine bodyPost_ret (v := .agg #[.bool false, .slice A n c]) (by simp [results, Tryz.f42, go_sem]) rfl (HR.out _ _ ?_ ?_)
  ·exact (Grow.refl w).al _
  ·refine ⟨by rw [sg_abs, HG.out]; exact Nat.le_refl _, .slice A n c, by rw [HGN.out]; rfl, ?_⟩
   rw [sg_abs, <- HZ.out, HG.out]; exact rd_alloc2 HC.out
 | true =>
  go_enter Tryz.func42, Tryz.ntmps42
  go_wp2_with fail
  go_at_call 61; refine C.out _ ?_; intro r hr; obtain ⟨A, c, rfl, h1, h2⟩ := rd_slice hr; have HC := Lh hr; clear hr; go_wp2; refine bodyPost_ret (v := .agg #[.bool (decide ((0 : Int) < (n : Nat))), .slice A n c]) (by simp [results, Tryz.f42, go_sem]) rfl (HR.out _ _ ?_ ?_)
  ·exact (Grow.refl w).al _
  ·refine ⟨by rw [sg_abs, HG.out]; exact Nat.le_refl _, .slice A n c, by rw [HGN.out]; rfl, ?_⟩
   rw [sg_abs, <- HZ.out, HG.out]; exact rd_alloc2 HC.out
set_option maxHeartbeats 1000000 in
theorem neg_any (z : Int) (k : Nat) (v : Value) (S : Nat -> Prop) (w : World) (hb : BigR w S v z k) (hk : k <= 100000) {R : Ending -> World -> Prop}
  (hR : ∀ r w', Grow w w' -> BigR w' (fun b => S b /\ b < w.heap.size) r (-z) k -> R (.returned r) w') :
  Calls Tryz.prog 35 #[v] w R := by
 have HR := Lh hR; clear hR; obtain ⟨hk1, m, rfl, hm⟩ := hb; have hm := hm.both (by decide)
 have e1 : sg (!decide (z < 0)) (vw (wds z.natAbs)) = -z := by
  rw [vw_wds]
  by_cases h : z < 0 <;> simp [sg, h] <;> omega
 have C := fun W (h : Grow w W) (R : Ending -> World -> Prop) hR => made_any (!decide (z < 0)) (wds z.natAbs) m _ W (hm.gr2 (by decide) h) (wd_wds _) (by omega) (R := R) hR
 rw [e1, vw_wds] at C; have C := Lh C; have HK := Lh hk1; clear e1 hk1 hm; generalize decide (z < 0) = p at *; generalize (wds z.natAbs).length = n at *; go_enter Tryz.func35, Tryz.ntmps35
 go_wp2_with fail
 go_at_call 42; refine C.out _ (((Grow.refl w).al _).al _) _ ?_; intro r w3 hg3 hr; obtain ⟨hk3, m3, rfl, hm3⟩ := hr; obtain ⟨A3, c3, rfl, g31, g32⟩ := rd_slice hm3; have HM3 := Lh hm3; generalize hn3 : (wds (-z).natAbs).length = n3 at *; have HN3 := Lh hn3; have HK3 := Lh hk3; clear hm3 hk3 hn3; generalize hq : decide (-z < 0) = q at *; have HQ := Lh hq; clear hq; have hb3 := blk_al _ _ _ hg3; simp only [World.size_alloc] at hb3; have c0 := cell_of_row _ (w.heap.size + 1) 0 _ _ (0, 0) hb3; have f0 := frozen_of_row _ (w.heap.size + 1) 0 _ _ hb3
 have b1 := blk_set hb3 0 (.bool q); have c1 := cell_of_row _ (w.heap.size + 1) 1 _ _ (0, 0) b1; have f1 := frozen_of_row _ (w.heap.size + 1) 1 _ _ b1; have b2 := blk_set b1 1 (.slice A3 n3 c3); have r0 := cell_of_row _ (w.heap.size + 1) 0 _ _ (0, 0) b2; have r1 := cell_of_row _ (w.heap.size + 1) 1 _ _ (0, 0) b2; simp only [sA, sZ, sS] at c0 c1 r0 r1; clear b1 b2; have G3 := Lh hg3; clear hg3 hb3; go_wp2; refine bodyPost_ret (v := .agg #[.bool q, .slice A3 n3 c3]) (by simp [results, Tryz.f35, go_sem, r0, r1]) rfl (HR.out _ _ ?_ ?_)
 ·exact grow_set2 (Nat.le_succ _) ((((Grow.refl w).al _).al _).tr G3.out) _ _
 ·refine ⟨by rw [HN3.out]; exact Nat.le_trans HK3.out HK.out, _, by rw [HQ.out], ?_⟩
  rw [HN3.out]; exact ((HM3.out.set (fun b hb => by have := hb.1.2; omega) _).set (fun b hb => by have := hb.1.2; omega) _).into fun b hb => hb.1
set_option maxHeartbeats 1000000 in
theorem sign_any (z : Int) (k : Nat) (v : Value) (S : Nat -> Prop) (w : World) (hb : BigR w S v z k) (_hk : k <= 100000) {R : Ending -> World -> Prop}
  (hR : ∀ w', Grow w w' -> R (.returned (.int .i64 z.sign)) w') :
  Calls Tryz.prog 34 #[v] w R := by
 have HR := Lh hR; clear hR; obtain ⟨hk1, m, rfl, hm⟩ := hb; obtain ⟨A, c, rfl, h1, h2⟩ := rd_slice hm; have hp := wds_len_pos z.natAbs; have hz : z < 0 ∨ z = 0 ∨ 0 < z := by omega
 rcases hz with hz | hz | hz
 ·have t1 : (((wds z.natAbs).length : Int) == 0) = false := by rw [beq_eq_false_iff_ne]; omega
  rw [Int.sign_eq_neg_one_of_neg hz] at HR; simp only [hz, decide_true]; generalize (wds z.natAbs).length = n at *; clear hp hz hm hk1; go_enter Tryz.func34, Tryz.ntmps34
  go_wp2; exact HR.out _ ((Grow.refl w).al _)
 ·subst hz
  rw [Int.sign_zero] at HR; simp only [Int.natAbs_zero, wds_zero, List.length_nil]; clear hp hm hk1; go_enter Tryz.func34, Tryz.ntmps34
  go_wp2; exact HR.out _ ((Grow.refl w).al _)
 ·have t1 : (((wds z.natAbs).length : Int) == 0) = false := by rw [beq_eq_false_iff_ne]; omega
  have t2 : decide (z < 0) = false := by simp; omega
  rw [Int.sign_eq_one_of_pos hz] at HR; rw [t2]; generalize (wds z.natAbs).length = n at *; clear hp hz hm hk1 t2; go_enter Tryz.func34, Tryz.ntmps34
  go_wp2; exact HR.out _ ((Grow.refl w).al _)
end Go.Proofs.YteeeeddeacepmaaGreatDoor
namespace Go.Proofs.YteeeeddeacepmaaGreatDoor
set_option maxRecDepth 100000
open Go.RowKit Go.Lib
theorem plus_step (v p s A B : Nat) : v + p * (s % 65536) + p * 65536 * (s / 65536 + A + B) = v + p * (s + 65536 * A + 65536 * B) := by
 rw [Nat.mul_assoc, Nat.add_assoc, <- Nat.mul_add]; congr 2
 omega
theorem less_step {v p x a b c c' A B L La : Nat} (h : v + p * (a + 65536 * A) + L = La + p * (c + (b + 65536 * B))) (e : x % 65536 + c + b = a + 65536 * c') : v + p * (x % 65536) + p * 65536 * A + L = La + p * 65536 * (c' + B) := by
 have h2 := congrArg (p * ·) e; simp only [Nat.mul_add, <- Nat.mul_assoc] at h h2 ⊢; omega
theorem vw_snoc (l : List Nat) (x : Nat) : vw (l ++ [x]) = vw l + 65536 ^ l.length * x := by rw [vw_app]; simp [vw]
theorem vw_drop0 {l : List Nat} {i : Nat} (h : ¬ i < l.length) : vw (l.drop i) = 0 + 65536 * vw (l.drop (i + 1)) := by
 rw [List.drop_eq_nil_of_le (by omega), List.drop_eq_nil_of_le (by omega)]; rfl
theorem rd_at {w wr : World} {S : Nat -> Prop} {A : Option Addr} {n c : Nat} {xs : List Value} (h : Rd w S 1 (.slice A n c) n xs) (hg : Grow w wr) {j : Nat} {u : Value} (hj : xs[j]? = some u) : ∃ b o, A = some ⟨b, o, none⟩ /\ wr.cell? ⟨b, o + j, none⟩ = some u := by
 obtain ⟨hl, A', c', hv, h1, h2, h3, h4⟩ := h.gr2 (by decide) hg; injection hv with e1 _ _
 subst e1; have hlt := (List.getElem?_eq_some_iff.1 hj).1; obtain ⟨b, o, rfl, _, hc⟩ := h4 (by omega); exact ⟨b, o, rfl, hc j u hj⟩
set_option maxHeartbeats 2000000 in
theorem plus_any (la lb : List Nat) (a b : Value) (S T : Nat -> Prop) (w : World) (ha : Rd w S 1 a la.length (W64 la)) (hb : Rd w T 1 b lb.length (W64 lb)) (hwa : Wd la) (hwb : Wd lb) (hla : la.length <= 40000) (hlb : lb.length <= 40000) {R : Ending -> World -> Prop}
  (hR : ∀ r ls w', w'.ownsRow w.heap.size 25 1 r ls.length (W64 ls) -> Wd ls -> vw ls = vw la + vw lb -> ls.length <= 80001 -> Grow w w' -> R (.returned r) w') :
  Calls Tryz.prog 43 #[a, b] w R := by
 have HR := Lh hR; obtain ⟨A, ca, rfl, h1, h2⟩ := rd_slice ha; obtain ⟨B, cb, rfl, k1, k2⟩ := rd_slice hb; have HA := Lh ha; have HB := Lh hb; have WA := Lh hwa; have WB := Lh hwb; clear hR ha hb hwa hwb; go_enter Tryz.func43, Tryz.ntmps43
 go_wp2
 go_loopw [5, 6, 7] (fun s5 s6 s7 wr => ∃ (out : List Nat) (c : Nat), s6 = .int .u64 c /\ s7 = .int .i64 out.length /\ c <= 1 /\ Hid (Wd out) /\ out.length <= max la.length lb.length + 1 /\ (out.length = max la.length lb.length + 1 -> c = 0) /\ Hid (vw out + 65536 ^ out.length * (c + vw (la.drop out.length) + vw (lb.drop out.length)) = vw la + vw lb) /\ wr.ownsRow w.heap.size 25 1 s5 out.length (W64 out) /\ Hid (Grow w wr)) (fun _ _ s7 _ => max la.length lb.length + 1 - (intOf s7).toNat)
 case atStart => exact ⟨[], 0, rfl, rfl, by omega, by intro x hx; simp at hx, by simp, fun _ => rfl, by show _ = _; simp [vw], World.ownsRow_nil _ _ _ _, Grow.refl _⟩
 case round =>
  obtain ⟨out, c, rfl, rfl, hc1, hwo, hol, hoc, heq, hown, hg⟩ := hrel; obtain ⟨A5, c5, rfl⟩ := own_slice hown
  by_cases hA : out.length < la.length
  ·obtain ⟨b1, o1, rfl, d1⟩ := rd_at HA.out hg.out (W64_at la _ hA)
   have EA := Lh (vw_drop hA); have X1 := WA.out _ (List.getElem_mem hA); generalize la[out.length]'hA = x at *
   by_cases hB : out.length < lb.length
   ·obtain ⟨b2, o2, rfl, d2⟩ := rd_at HB.out hg.out (W64_at lb _ hB)
    have EB := Lh (vw_drop hB); have X2 := WB.out _ (List.getElem_mem hB); generalize lb[out.length]'hB = y at *; have HS := Lh (plus_step (vw out) (65536 ^ out.length) (c + x + y) (vw (la.drop (out.length + 1))) (vw (lb.drop (out.length + 1)))); go_wp2_with (at_builtin; refine wpList_new rfl _ _ rfl el_w64 hown rfl 1 _ rfl (by decide) rfl (by simp [Value.oneCell']) (by omega) hg.out ⟨Nat.le_refl _, hg.out.size⟩ ?_; intro v1 w1 hown1 hg1 hgr1 hb1; have HG1 := Lh hg1; clear hg1 hgr1 hb1)
    go_roundw
    case rel =>
     refine ⟨out ++ [(c + x + y) % 65536], (c + x + y) / 65536, by go_num, by first | go_num | simp, by omega, wd_snoc hwo.out (by omega), by simp <;> omega, by simp <;> omega, ?_, own_eq hown1 (by simp) ?_, HG1⟩
     ·show _ = _
      rw [List.length_append, List.length_singleton, vw_snoc, Nat.pow_succ, HS.out, <- heq.out, EA.out, EB.out]; congr 2
      omega
     ·rw [W64_app]; rfl
    case measure => simp [intOf]; omega
   ·have EB := Lh (vw_drop0 hB)
    have HS := Lh (plus_step (vw out) (65536 ^ out.length) (c + x) (vw (la.drop (out.length + 1))) (vw (lb.drop (out.length + 1)))); go_wp2_with (at_builtin; refine wpList_new rfl _ _ rfl el_w64 hown rfl 1 _ rfl (by decide) rfl (by simp [Value.oneCell']) (by omega) hg.out ⟨Nat.le_refl _, hg.out.size⟩ ?_; intro v1 w1 hown1 hg1 hgr1 hb1; have HG1 := Lh hg1; clear hg1 hgr1 hb1)
    go_roundw
    case rel =>
     refine ⟨out ++ [(c + x) % 65536], (c + x) / 65536, by go_num, by first | go_num | simp, by omega, wd_snoc hwo.out (by omega), by simp <;> omega, by simp <;> omega, ?_, own_eq hown1 (by simp) ?_, HG1⟩
     ·show _ = _
      rw [List.length_append, List.length_singleton, vw_snoc, Nat.pow_succ, HS.out, <- heq.out, EA.out, EB.out]; congr 2
      omega
     ·rw [W64_app]; rfl
    case measure => simp [intOf]; omega
  ·have EA := Lh (vw_drop0 hA)
   by_cases hB : out.length < lb.length
   ·obtain ⟨b2, o2, rfl, d2⟩ := rd_at HB.out hg.out (W64_at lb _ hB)
    have EB := Lh (vw_drop hB); have X2 := WB.out _ (List.getElem_mem hB); generalize lb[out.length]'hB = y at *; have HS := Lh (plus_step (vw out) (65536 ^ out.length) (c + y) (vw (la.drop (out.length + 1))) (vw (lb.drop (out.length + 1)))); go_wp2_with (at_builtin; refine wpList_new rfl _ _ rfl el_w64 hown rfl 1 _ rfl (by decide) rfl (by simp [Value.oneCell']) (by omega) hg.out ⟨Nat.le_refl _, hg.out.size⟩ ?_; intro v1 w1 hown1 hg1 hgr1 hb1; have HG1 := Lh hg1; clear hg1 hgr1 hb1)
    go_roundw
    case rel =>
     refine ⟨out ++ [(c + y) % 65536], (c + y) / 65536, by go_num, by first | go_num | simp, by omega, wd_snoc hwo.out (by omega), by simp <;> omega, by simp <;> omega, ?_, own_eq hown1 (by simp) ?_, HG1⟩
     ·show _ = _
      rw [List.length_append, List.length_singleton, vw_snoc, Nat.pow_succ, HS.out, <- heq.out, EA.out, EB.out]; congr 2
      omega
     ·rw [W64_app]; rfl
    case measure => simp [intOf]; omega
   ·have EB := Lh (vw_drop0 hB)
    by_cases h0 : c = 0
    ·subst h0
     have e := heq.out; rw [List.drop_eq_nil_of_le (by omega), List.drop_eq_nil_of_le (by omega)] at e; have h := HR.out _ out _ hown hwo.out (by simpa [vw] using e) (by omega) hg.out; clear EA EB heq hoc; go_wp2; exact h
    ·have t0 : decide ((0 : Int) < (c : Nat)) = true := by simp; omega
     have HS := Lh (plus_step (vw out) (65536 ^ out.length) (c) (vw (la.drop (out.length + 1))) (vw (lb.drop (out.length + 1)))); go_wp2_with (at_builtin; refine wpList_new rfl _ _ rfl el_w64 hown rfl 1 _ rfl (by decide) rfl (by simp [Value.oneCell']) (by omega) hg.out ⟨Nat.le_refl _, hg.out.size⟩ ?_; intro v1 w1 hown1 hg1 hgr1 hb1; have HG1 := Lh hg1; clear hg1 hgr1 hb1)
     go_roundw
     case rel =>
      refine ⟨out ++ [(c) % 65536], (c) / 65536, by go_num, by first | go_num | simp, by omega, wd_snoc hwo.out (by omega), by simp <;> omega, by simp <;> omega, ?_, own_eq hown1 (by simp) ?_, HG1⟩
      ·show _ = _
       rw [List.length_append, List.length_singleton, vw_snoc, Nat.pow_succ, HS.out, <- heq.out, EA.out, EB.out]; congr 2
       omega
      ·rw [W64_app]; rfl
     case measure => simp [intOf]; omega
set_option maxHeartbeats 2000000 in
theorem less_any (la lb : List Nat) (a b : Value) (S T : Nat -> Prop) (w : World) (ha : Rd w S 1 a la.length (W64 la)) (hb : Rd w T 1 b lb.length (W64 lb)) (hwa : Wd la) (hwb : Wd lb) (hla : la.length <= 40000) (_hlb : lb.length <= 40000) (hle : vw lb <= vw la) {R : Ending -> World -> Prop}
  (hR : ∀ r ls w', w'.ownsRow w.heap.size 25 1 r ls.length (W64 ls) -> Wd ls -> vw ls = vw la - vw lb -> ls.length <= 80001 -> Grow w w' -> R (.returned r) w') :
  Calls Tryz.prog 45 #[a, b] w R := by
 have HR := Lh hR; obtain ⟨A, ca, rfl, h1, h2⟩ := rd_slice ha; obtain ⟨B, cb, rfl, k1, k2⟩ := rd_slice hb; have HA := Lh ha; have HB := Lh hb; have WA := Lh hwa; have WB := Lh hwb; have HLE := Lh hle; clear hR ha hb hwa hwb hle; go_enter Tryz.func45, Tryz.ntmps45
 go_wp2
 go_loopw [5, 6, 7] (fun s5 s6 s7 wr => ∃ (out : List Nat) (c : Nat), s6 = .int .u64 c /\ s7 = .int .i64 out.length /\ c <= 1 /\ Hid (Wd out) /\ out.length <= la.length /\ Hid (vw out + 65536 ^ out.length * vw (la.drop out.length) + vw lb = vw la + 65536 ^ out.length * (c + vw (lb.drop out.length))) /\ wr.ownsRow w.heap.size 25 1 s5 out.length (W64 out) /\ Hid (Grow w wr)) (fun _ _ s7 _ => la.length - (intOf s7).toNat)
 case atStart => exact ⟨[], 0, rfl, rfl, by omega, by intro x hx; simp at hx, by simp, by show _ = _; simp [vw], World.ownsRow_nil _ _ _ _, Grow.refl _⟩
 case round =>
  obtain ⟨out, c, rfl, rfl, hc1, hwo, hol, heq, hown, hg⟩ := hrel; obtain ⟨A5, c5, rfl⟩ := own_slice hown
  by_cases hA : out.length < la.length
  ·obtain ⟨b1, o1, rfl, d1⟩ := rd_at HA.out hg.out (W64_at la _ hA)
   have EA := Lh (vw_drop hA); have X1 := WA.out _ (List.getElem_mem hA); generalize la[out.length]'hA = x at *
   by_cases hB : out.length < lb.length
   ·obtain ⟨b2, o2, rfl, d2⟩ := rd_at HB.out hg.out (W64_at lb _ hB)
    have EB := Lh (vw_drop hB); have X2 := WB.out _ (List.getElem_mem hB); generalize lb[out.length]'hB = y at *; have HS := Lh (fun h => less_step (v := vw out) (p := 65536 ^ out.length) (x := x + 65536 - c - y) (a := x) (b := y) (c := c) (c' := 1 - (x + 65536 - c - y) / 65536) (A := vw (la.drop (out.length + 1))) (B := vw (lb.drop (out.length + 1))) (L := vw lb) (La := vw la) h (by omega)); have hs1 : ((x : Int) + 65536 - c) = ((x + 65536 - c : Nat) : Int) := by omega
    have hs2 : (((x + 65536 - c : Nat) : Int) - y) = ((x + 65536 - c - y : Nat) : Int) := by omega
    go_wp2_with (at_builtin; refine wpList_new rfl _ _ rfl el_w64 hown rfl 1 _ rfl (by decide) rfl (by simp [Value.oneCell']) (by omega) hg.out ⟨Nat.le_refl _, hg.out.size⟩ ?_; intro v1 w1 hown1 hg1 hgr1 hb1; have HG1 := Lh hg1; clear hg1 hgr1 hb1)
    go_roundw
    case rel =>
     refine ⟨out ++ [(x + 65536 - c - y) % 65536], 1 - (x + 65536 - c - y) / 65536, by go_num, by first | go_num | simp, by omega, wd_snoc hwo.out (by omega), by simp <;> omega, ?_, own_eq hown1 (by simp) ?_, HG1⟩
     ·show _ = _
      rw [List.length_append, List.length_singleton, vw_snoc, Nat.pow_succ]; refine HS.out ?_; rw [<- EA.out, <- EB.out]; exact heq.out
     ·rw [W64_app]; first | rfl | (simp [W64]; omega)
    case measure => simp [intOf]; omega
   ·have EB := Lh (vw_drop0 hB)
    have HS := Lh (fun h => less_step (v := vw out) (p := 65536 ^ out.length) (x := x + 65536 - c) (a := x) (b := 0) (c := c) (c' := 1 - (x + 65536 - c) / 65536) (A := vw (la.drop (out.length + 1))) (B := vw (lb.drop (out.length + 1))) (L := vw lb) (La := vw la) h (by omega)); have hs1 : ((x : Int) + 65536 - c) = ((x + 65536 - c : Nat) : Int) := by omega
    skip
    go_wp2_with (at_builtin; refine wpList_new rfl _ _ rfl el_w64 hown rfl 1 _ rfl (by decide) rfl (by simp [Value.oneCell']) (by omega) hg.out ⟨Nat.le_refl _, hg.out.size⟩ ?_; intro v1 w1 hown1 hg1 hgr1 hb1; have HG1 := Lh hg1; clear hg1 hgr1 hb1)
    go_roundw
    case rel =>
     refine ⟨out ++ [(x + 65536 - c) % 65536], 1 - (x + 65536 - c) / 65536, by go_num, by first | go_num | simp, by omega, wd_snoc hwo.out (by omega), by simp <;> omega, ?_, own_eq hown1 (by simp) ?_, HG1⟩
     ·show _ = _
      rw [List.length_append, List.length_singleton, vw_snoc, Nat.pow_succ]; refine HS.out ?_; rw [<- EA.out, <- EB.out]; exact heq.out
     ·rw [W64_app]; first | rfl | (simp [W64]; omega)
    case measure => simp [intOf]; omega
  ·obtain hA : out.length = la.length := by omega
   have e := heq.out; have hv := vw_lt _ hwo.out; rw [List.drop_eq_nil_of_le (show la.length <= out.length by omega)] at e
   have hfin : vw out = vw la - vw lb := by
    have hle := HLE.out; generalize 65536 ^ out.length = p at *; generalize c + vw (lb.drop out.length) = q at *; simp only [vw] at e; rcases Nat.eq_zero_or_pos q with h0 | h0
    ·subst h0; omega
    ·have := Nat.mul_le_mul_left p h0
     omega
   have h := HR.out _ out _ hown hwo.out hfin (by omega) hg.out; clear heq e hfin hv; go_wp2; exact h
set_option maxHeartbeats 2000000 in
theorem size_any (x y : Nat) (a b : Value) (S T : Nat -> Prop) (w : World) (ha : Rd w S 1 a (wds x).length (W64 (wds x))) (hb : Rd w T 1 b (wds y).length (W64 (wds y))) (hla : (wds x).length <= 100000) {R : Ending -> World -> Prop}
  (hR : ∀ w', Grow w w' -> R (.returned (.int .i64 (if x < y then -1 else if y < x then 1 else 0))) w') :
  Calls Tryz.prog 44 #[a, b] w R := by
 have HR := Lh hR; obtain ⟨A, ca, rfl, h1, h2⟩ := rd_slice ha; obtain ⟨B, cb, rfl, k1, k2⟩ := rd_slice hb; have HA := Lh ha; have HB := Lh hb; have WA := Lh (wd_wds x); have WB := Lh (wd_wds y); have VA := Lh (vw_wds x); have VB := Lh (vw_wds y); have HLT := Lh (@vw_len_lt x y); have HGT := Lh (@vw_len_lt y x); clear hR ha hb; generalize wds x = la at *; generalize wds y = lb at *
 by_cases hne : la.length = lb.length
 ·have t1 : ((la.length : Int) != lb.length) = false := by simp; omega
  have hne := Lh hne; have hsub0 : ((la.length : Int) - 1) = (la.length : Int) - 1 := rfl; go_enter Tryz.func44, Tryz.ntmps44
  go_wp2
  go_loopw [5] (fun s5 wr => ∃ (k q : Nat) (z : Int), k <= la.length /\ z = (k : Int) - 1 /\ s5 = .int .i64 z /\ Hid (la.drop k = lb.drop k) /\ wr = w.drewN q) (fun s5 _ => (intOf s5 + 1).toNat)
  case atStart => exact ⟨la.length, 0, (la.length : Int) - 1, Nat.le_refl _, rfl, by go_num, by show _ = _; rw [List.drop_length, hne.out, List.drop_length], rfl⟩
  case round =>
   obtain ⟨k, q, z, hk, hz, rfl, hd, rfl⟩ := hrel; rcases Nat.eq_zero_or_pos k with h0 | h0
   ·subst h0
    have e : x = y := by rw [<- VA.out, <- VB.out]; have := hd.out; simpa using congrArg vw this
    have h := HR.out _ ((Grow.refl w).dn q); rw [if_neg (by omega), if_neg (by omega)] at h; obtain rfl : z = -1 := by omega
    clear e hz; go_wp2; exact h
   ·obtain ⟨j, rfl⟩ : ∃ j, k = j + 1 := ⟨k - 1, by omega⟩
    have hlt : j < la.length := by omega
    have hlt2 : j < lb.length := by have := hne.out; omega
    obtain rfl : z = (j : Int) := by omega
    obtain ⟨b1, o1, rfl, d1⟩ := rd_at HA.out (Grow.refl w) (W64_at la _ hlt); obtain ⟨b2, o2, rfl, d2⟩ := rd_at HB.out (Grow.refl w) (W64_at lb _ hlt2); have X1 := WA.out _ (List.getElem_mem hlt); have X2 := WB.out _ (List.getElem_mem hlt2); have L1 := Lh (vw_below WA.out hlt hlt2 hd.out); have L2 := Lh (vw_below WB.out hlt2 hlt hd.out.symm)
    have L3 : Hid (la[j]'hlt = lb[j]'hlt2 -> la.drop j = lb.drop j) := fun h => by
     rw [List.drop_eq_getElem_cons hlt, List.drop_eq_getElem_cons hlt2, h, hd.out]
    generalize la[j]'hlt = p at *; generalize lb[j]'hlt2 = r at *; have hsub : (((j : Nat) : Int) - 1) = (j : Int) - 1 := rfl
    by_cases hpr : p < r
    ·have t2 : decide (p < r) = true := decide_eq_true hpr
     have hxy : x < y := by have := L1.out hpr; rw [VA.out, VB.out] at this; exact this
     have h := Lh fun W (g : Grow w W) => show R (.returned (.int .i64 (-1))) W by have := HR.out W g; rwa [if_pos hxy] at this
     clear hz hd L1 L2 L3 hpr hxy; go_wp2
     go_quiet (fail)
     go_wp2; exact h.out _ (((Grow.refl w).dn _).dn _)
    ·have t2 : decide (p < r) = false := decide_eq_false hpr
     by_cases hrp : r < p
     ·have t3 : decide (r < p) = true := decide_eq_true hrp
      rw [VA.out, VB.out] at L2; have hyx := L2.out hrp; have h := Lh fun W (g : Grow w W) => show R (.returned (.int .i64 1)) W by have := HR.out W g; rwa [if_neg (by omega), if_pos hyx] at this
      clear hz hd L1 L2 L3 hpr hrp hyx; go_wp2
      go_quiet (fail)
      go_wp2
      go_quiet (fail)
      go_wp2; exact h.out _ ((((Grow.refl w).dn _).dn _).dn _)
     ·have t3 : decide (r < p) = false := decide_eq_false hrp
      have L3 := Lh (L3.out (by omega)); clear hz hd L1 L2 hpr hrp; go_wp2
      go_quiet (fail)
      go_wp2
      go_quiet (fail)
      go_wp2; go_roundw
      case rel => exact ⟨j, _, (j : Int) - 1, by omega, rfl, by go_num, L3.out, rfl⟩
      case measure => simp [intOf] <;> omega
 ·have t1 : ((la.length : Int) != lb.length) = true := by simp; omega
  by_cases hlt : la.length < lb.length
  ·have t2 : decide (la.length < lb.length) = true := decide_eq_true hlt
   have h := HR.out _ (Grow.refl w); rw [if_pos (HLT.out hlt)] at h; clear hne hlt; go_enter Tryz.func44, Tryz.ntmps44
   go_wp2; exact h
  ·have t2 : decide (la.length < lb.length) = false := decide_eq_false hlt
   have h := HR.out _ (Grow.refl w); have hyx := HGT.out (by omega); rw [if_neg (by omega), if_pos hyx] at h; clear hne hlt hyx; go_enter Tryz.func44, Tryz.ntmps44
   go_wp2; exact h
end Go.Proofs.YteeeeddeacepmaaGreatDoor
namespace Go.Proofs.YteeeeddeacepmaaGreatDoor
set_option maxRecDepth 100000
open Go.RowKit Go.Lib B
theorem sg_add {x y : Int} {p : Bool} (hx : decide (x < 0) = p) (hy : decide (y < 0) = p) : sg p (x.natAbs + y.natAbs) = x + y := by
 cases p <;> simp only [sg, decide_eq_true_eq, decide_eq_false_iff_not] at * <;> simp <;> omega
theorem sg_sub {x y : Int} {p q : Bool} (hx : decide (x < 0) = p) (hy : decide (y < 0) = q) (hne : p ≠ q) (hle : y.natAbs <= x.natAbs) : sg p (x.natAbs - y.natAbs) = x + y := by
 cases p <;> cases q <;> simp only [sg, decide_eq_true_eq, decide_eq_false_iff_not] at * <;> simp at * <;> omega
set_option maxHeartbeats 4000000 in
theorem add_any (x y : Int) (k1 k2 : Nat) (a b : Value) (S T : Nat -> Prop) (w : World) (ha : BigR w S a x k1) (hb : BigR w T b y k2) (hk1 : k1 <= 30000) (hk2 : k2 <= 30000) {R : Ending -> World -> Prop}
  (hR : ∀ r w', Grow w w' -> BigR w' (fun b => w.heap.size <= b) r (x + y) (max k1 k2 + 1) -> R (.returned r) w') :
  Calls Tryz.prog 28 #[a, b] w R := by
 have HR := Lh hR; clear hR; obtain ⟨l1, m1, rfl, hm1⟩ := ha; obtain ⟨l2, m2, rfl, hm2⟩ := hb; obtain ⟨A1, c1, rfl, g11, g12⟩ := rd_slice hm1; obtain ⟨A2, c2, rfl, g21, g22⟩ := rd_slice hm2; have L1 := Lh l1; have L2 := Lh l2; have HM1 := Lh hm1; have HM2 := Lh hm2; have PL := Lh fun W (h : Grow w W) (R : Ending -> World -> Prop) hR => plus_any (wds x.natAbs) (wds y.natAbs) _ _ _ _ W (hm1.gr2 (by decide) h) (hm2.gr2 (by decide) h) (wd_wds _) (wd_wds _) (by omega) (by omega) (R := R) hR
 have LE1 := Lh fun (hle : y.natAbs <= x.natAbs) W (h : Grow w W) (R : Ending -> World -> Prop) hR => less_any (wds x.natAbs) (wds y.natAbs) _ _ _ _ W (hm1.gr2 (by decide) h) (hm2.gr2 (by decide) h) (wd_wds _) (wd_wds _) (by omega) (by omega) (by rw [vw_wds, vw_wds]; exact hle) (R := R) hR
 have LE2 := Lh fun (hle : x.natAbs <= y.natAbs) W (h : Grow w W) (R : Ending -> World -> Prop) hR => less_any (wds y.natAbs) (wds x.natAbs) _ _ _ _ W (hm2.gr2 (by decide) h) (hm1.gr2 (by decide) h) (wd_wds _) (wd_wds _) (by omega) (by omega) (by rw [vw_wds, vw_wds]; exact hle) (R := R) hR
 have SZ := Lh fun W (h : Grow w W) (R : Ending -> World -> Prop) hR => size_any x.natAbs y.natAbs _ _ _ _ W (hm1.gr2 (by decide) h) (hm2.gr2 (by decide) h) (by omega) (R := R) hR
 obtain ⟨p, hp⟩ : ∃ p, decide (x < 0) = p := ⟨_, rfl⟩
 obtain ⟨q, hq⟩ : ∃ q, decide (y < 0) = q := ⟨_, rfl⟩
 have HP := Lh hp; have HQ0 := Lh hq; rw [hp, hq]; have LX := Lh (rfl : (wds x.natAbs).length = (wds x.natAbs).length)
 have KB : Hid (∀ z : Int, z.natAbs <= x.natAbs + y.natAbs -> (wds z.natAbs).length <= max k1 k2 + 1) := by
  intro z hz; have h1 := wds_le_len hz; have h2 := wds_add_len x.natAbs y.natAbs; have h3 := L1.out; have h4 := L2.out; omega
 clear hp hq hm1 hm2 l1 l2; generalize (wds x.natAbs).length = n1 at *; generalize (wds y.natAbs).length = n2 at *
 obtain ⟨wa, hwa⟩ : ∃ wa, wa = (((w.alloc (.cells #[.bool p, .slice A1 n1 c1] 40)).alloc (.cells #[.bool q, .slice A2 n2 c2] 40)).alloc (.cells #[.bool false, .slice none 0 0] 40)) := ⟨_, rfl⟩
 have K0 : Hid (∀ W, Grow wa W -> W.heap[w.heap.size]? = some (.cells #[.bool p, .slice A1 n1 c1] 40 (0, 0))) := fun W h => by
  subst hwa; exact blk_al w _ _ ((((Grow.refl _).al _).al _).tr h)
 have K1 : Hid (∀ W, Grow wa W -> W.heap[w.heap.size + 1]? = some (.cells #[.bool q, .slice A2 n2 c2] 40 (0, 0))) := fun W h => by
  subst hwa; have := blk_al (w.alloc (.cells #[.bool p, .slice A1 n1 c1] 40)) _ _ (((Grow.refl _).al _).tr h)
  rwa [World.size_alloc] at this
 have K2 : Hid (∀ W, Grow wa W -> W.heap[w.heap.size + 1 + 1]? = some (.cells #[.bool false, .slice none 0 0] 40 (0, 0))) := fun W h => by
  subst hwa; have := blk_al _ _ _ h
  rwa [World.size_alloc, World.size_alloc] at this
 have GA : Hid (Grow w wa) := by
  subst hwa; exact (((Grow.refl w).al _).al _).al _
 have GS : Hid (wa.heap.size = w.heap.size + 3) := by
  subst hwa; show _ = _; rw [World.size_alloc, World.size_alloc, World.size_alloc]
 by_cases hpq : p = q
 ·subst hpq
  cases p with
  | false =>
   go_enter Tryz.func28, Tryz.ntmps28
   go_wp2_with fail
   rw [<- hwa]; clear hwa; have HWW := Lh (Grow.refl wa); refine wp_region_lexT (Grow wa) (HWW.out.dr) 7 [0, 1, 2, 3, 4, 5, 6] (by kernel_rfl) (by kernel_rfl) (by intro c a d v w h; cases d <;> exact h) ?_
   iterate 6 (apply lext_take; exact rfl; exact rfl; (intro W hW; have z0 := cell_of_row _ w.heap.size 0 _ _ (0, 0) (K0.out _ hW); have z1 := cell_of_row _ w.heap.size 1 _ _ (0, 0) (K0.out _ hW); have y0 := cell_of_row _ (w.heap.size + 1) 0 _ _ (0, 0) (K1.out _ hW); have y1 := cell_of_row _ (w.heap.size + 1) 1 _ _ (0, 0) (K1.out _ hW); (try clear hW); go_simp; with_reducible rfl); try simp only [Act.put, sA, sZ, sS])
   apply lext_turn; exact rfl; exact rfl; exact rfl; intro K hK; go_simp; go_at_call 43; refine PL.out _ (GA.out.tr HWW.out.dr) _ ?_; intro r4 ls w4 hown4 hwd4 hv4 hl4 hg4; have G4 := Lh (HWW.out.dr.tr hg4); have HO4 := Lh hown4; have HS4 := Lh hv4; have WD4 := Lh hwd4; have SZ4 : Hid (∀ b, (wa).heap.size <= b -> w.heap.size + 3 <= b) := fun b hb => by have := HWW.out.size; have := GS.out; omega
   refine hK.out _ _ G4.out ?_; clear hK hg4 hown4 hv4 hwd4
   try simp only [Act.put, sA, sZ, sS]
   refine lext_nil ?_; simp only [List.drop_succ_cons, List.drop_zero]; go_wp2_with fail
   go_at_call 42; refine made_any _ ls r4 _ w4 (Rd.own_from HO4.out) WD4.out (by omega) ?_; intro r w5 hg5 hr; rw [HS4.out, vw_wds, vw_wds, sg_add HP.out HQ0.out] at hr; have hb3 := K2.out w5 (G4.out.tr hg5); have G5 := Lh (G4.out.tr hg5); clear hg5; obtain ⟨hk3, m3, rfl, hm3⟩ := hr; obtain ⟨A3, c3, rfl, g31, g32⟩ := rd_slice hm3; have HM3 := Lh hm3; generalize hn3 : (wds ((x + y)).natAbs).length = n3 at *; have HN3 := Lh hn3; have HK3 := Lh hk3; clear hm3 hk3 hn3; generalize hq : decide ((x + y) < 0) = q3 at *; have HQ := Lh hq; clear hq
   have c0 := cell_of_row _ (w.heap.size + 1 + 1) 0 _ _ (0, 0) hb3; have f0 := frozen_of_row _ (w.heap.size + 1 + 1) 0 _ _ hb3; have b1 := blk_set hb3 0 (.bool q3); have c1 := cell_of_row _ (w.heap.size + 1 + 1) 1 _ _ (0, 0) b1; have f1 := frozen_of_row _ (w.heap.size + 1 + 1) 1 _ _ b1; have b2 := blk_set b1 1 (.slice A3 n3 c3); have r0 := cell_of_row _ (w.heap.size + 1 + 1) 0 _ _ (0, 0) b2; have r1 := cell_of_row _ (w.heap.size + 1 + 1) 1 _ _ (0, 0) b2; simp only [sA, sZ, sS] at c0 c1 r0 r1; clear b1 b2; clear hb3; go_wp2
   refine bodyPost_ret (v := .agg #[.bool q3, .slice A3 n3 c3]) (by simp [results, Tryz.f28, go_sem, r0, r1]) rfl (HR.out _ _ ?_ ?_)
   ·exact grow_set2 (by omega) (GA.out.tr G5.out) _ _
   ·refine ⟨KB.out _ (Int.natAbs_add_le x y), _, by rw [HQ.out], ?_⟩
    rw [HN3.out]; exact ((HM3.out.set (fun b hb => by have := SZ4.out b hb.1; omega) _).set (fun b hb => by have := SZ4.out b hb.1; omega) _).into fun b hb => by have := SZ4.out b hb.1; omega
  | true =>
   go_enter Tryz.func28, Tryz.ntmps28
   go_wp2_with fail
   rw [<- hwa]; clear hwa; have HWW := Lh (Grow.refl wa); refine wp_region_lexT (Grow wa) (HWW.out.dr) 7 [0, 1, 2, 3, 4, 5, 6] (by kernel_rfl) (by kernel_rfl) (by intro c a d v w h; cases d <;> exact h) ?_
   iterate 6 (apply lext_take; exact rfl; exact rfl; (intro W hW; have z0 := cell_of_row _ w.heap.size 0 _ _ (0, 0) (K0.out _ hW); have z1 := cell_of_row _ w.heap.size 1 _ _ (0, 0) (K0.out _ hW); have y0 := cell_of_row _ (w.heap.size + 1) 0 _ _ (0, 0) (K1.out _ hW); have y1 := cell_of_row _ (w.heap.size + 1) 1 _ _ (0, 0) (K1.out _ hW); (try clear hW); go_simp; with_reducible rfl); try simp only [Act.put, sA, sZ, sS])
   apply lext_turn; exact rfl; exact rfl; exact rfl; intro K hK; go_simp; go_at_call 43; refine PL.out _ (GA.out.tr HWW.out.dr) _ ?_; intro r4 ls w4 hown4 hwd4 hv4 hl4 hg4; have G4 := Lh (HWW.out.dr.tr hg4); have HO4 := Lh hown4; have HS4 := Lh hv4; have WD4 := Lh hwd4; have SZ4 : Hid (∀ b, (wa).heap.size <= b -> w.heap.size + 3 <= b) := fun b hb => by have := HWW.out.size; have := GS.out; omega
   refine hK.out _ _ G4.out ?_; clear hK hg4 hown4 hv4 hwd4
   try simp only [Act.put, sA, sZ, sS]
   refine lext_nil ?_; simp only [List.drop_succ_cons, List.drop_zero]; go_wp2_with fail
   go_at_call 42; refine made_any _ ls r4 _ w4 (Rd.own_from HO4.out) WD4.out (by omega) ?_; intro r w5 hg5 hr; rw [HS4.out, vw_wds, vw_wds, sg_add HP.out HQ0.out] at hr; have hb3 := K2.out w5 (G4.out.tr hg5); have G5 := Lh (G4.out.tr hg5); clear hg5; obtain ⟨hk3, m3, rfl, hm3⟩ := hr; obtain ⟨A3, c3, rfl, g31, g32⟩ := rd_slice hm3; have HM3 := Lh hm3; generalize hn3 : (wds ((x + y)).natAbs).length = n3 at *; have HN3 := Lh hn3; have HK3 := Lh hk3; clear hm3 hk3 hn3; generalize hq : decide ((x + y) < 0) = q3 at *; have HQ := Lh hq; clear hq
   have c0 := cell_of_row _ (w.heap.size + 1 + 1) 0 _ _ (0, 0) hb3; have f0 := frozen_of_row _ (w.heap.size + 1 + 1) 0 _ _ hb3; have b1 := blk_set hb3 0 (.bool q3); have c1 := cell_of_row _ (w.heap.size + 1 + 1) 1 _ _ (0, 0) b1; have f1 := frozen_of_row _ (w.heap.size + 1 + 1) 1 _ _ b1; have b2 := blk_set b1 1 (.slice A3 n3 c3); have r0 := cell_of_row _ (w.heap.size + 1 + 1) 0 _ _ (0, 0) b2; have r1 := cell_of_row _ (w.heap.size + 1 + 1) 1 _ _ (0, 0) b2; simp only [sA, sZ, sS] at c0 c1 r0 r1; clear b1 b2; clear hb3; go_wp2
   refine bodyPost_ret (v := .agg #[.bool q3, .slice A3 n3 c3]) (by simp [results, Tryz.f28, go_sem, r0, r1]) rfl (HR.out _ _ ?_ ?_)
   ·exact grow_set2 (by omega) (GA.out.tr G5.out) _ _
   ·refine ⟨KB.out _ (Int.natAbs_add_le x y), _, by rw [HQ.out], ?_⟩
    rw [HN3.out]; exact ((HM3.out.set (fun b hb => by have := SZ4.out b hb.1; omega) _).set (fun b hb => by have := SZ4.out b hb.1; omega) _).into fun b hb => by have := SZ4.out b hb.1; omega
 ·have hne := Lh hpq
  by_cases hlt : x.natAbs < y.natAbs
  ·have SZ := Lh fun W h (R : Ending -> World -> Prop) (hR : ∀ w', Grow W w' -> R (.returned (.int .i64 (-1))) w') => SZ.out W h R (by rw [if_pos hlt]; exact hR)
   have LE2 := Lh (LE2.out (Nat.le_of_lt hlt)); have E := Lh ((sg_sub HQ0.out HP.out (fun e => hne.out e.symm) (Nat.le_of_lt hlt)).trans (Int.add_comm _ _)); clear hlt hpq
   cases p with
   | false =>
    cases q with
    | false => exact absurd rfl hne.out
    | true =>
     go_enter Tryz.func28, Tryz.ntmps28
     go_wp2_with fail
     rw [<- hwa]; clear hwa; go_at_call 44; refine SZ.out _ GA.out _ ?_; intro ww hww; have HWW := Lh hww; clear hww; go_wp2_with fail
     refine wp_region_lexT (Grow wa) (HWW.out.dr) 7 [0, 1, 2, 3, 4, 5, 6] (by kernel_rfl) (by kernel_rfl) (by intro c a d v w h; cases d <;> exact h) ?_
     iterate 6 (apply lext_take; exact rfl; exact rfl; (intro W hW; have z0 := cell_of_row _ w.heap.size 0 _ _ (0, 0) (K0.out _ hW); have z1 := cell_of_row _ w.heap.size 1 _ _ (0, 0) (K0.out _ hW); have y0 := cell_of_row _ (w.heap.size + 1) 0 _ _ (0, 0) (K1.out _ hW); have y1 := cell_of_row _ (w.heap.size + 1) 1 _ _ (0, 0) (K1.out _ hW); (try clear hW); go_simp; with_reducible rfl); try simp only [Act.put, sA, sZ, sS])
     apply lext_turn; exact rfl; exact rfl; exact rfl; intro K hK; go_simp; go_at_call 45; refine LE2.out _ (GA.out.tr HWW.out.dr) _ ?_; intro r4 ls w4 hown4 hwd4 hv4 hl4 hg4; have G4 := Lh (HWW.out.dr.tr hg4); have HO4 := Lh hown4; have HS4 := Lh hv4; have WD4 := Lh hwd4; have SZ4 : Hid (∀ b, (ww).heap.size <= b -> w.heap.size + 3 <= b) := fun b hb => by have := HWW.out.size; have := GS.out; omega
     refine hK.out _ _ G4.out ?_; clear hK hg4 hown4 hv4 hwd4
     try simp only [Act.put, sA, sZ, sS]
     refine lext_nil ?_; simp only [List.drop_succ_cons, List.drop_zero]; go_wp2_with fail
     go_at_call 42; refine made_any _ ls r4 _ w4 (Rd.own_from HO4.out) WD4.out (by omega) ?_; intro r w5 hg5 hr; rw [HS4.out, vw_wds, vw_wds, E.out] at hr; have hb3 := K2.out w5 (G4.out.tr hg5); have G5 := Lh (G4.out.tr hg5); clear hg5; obtain ⟨hk3, m3, rfl, hm3⟩ := hr; obtain ⟨A3, c3, rfl, g31, g32⟩ := rd_slice hm3; have HM3 := Lh hm3; generalize hn3 : (wds ((x + y)).natAbs).length = n3 at *; have HN3 := Lh hn3; have HK3 := Lh hk3; clear hm3 hk3 hn3; generalize hq : decide ((x + y) < 0) = q3 at *; have HQ := Lh hq; clear hq
     have c0 := cell_of_row _ (w.heap.size + 1 + 1) 0 _ _ (0, 0) hb3; have f0 := frozen_of_row _ (w.heap.size + 1 + 1) 0 _ _ hb3; have b1 := blk_set hb3 0 (.bool q3); have c1 := cell_of_row _ (w.heap.size + 1 + 1) 1 _ _ (0, 0) b1; have f1 := frozen_of_row _ (w.heap.size + 1 + 1) 1 _ _ b1; have b2 := blk_set b1 1 (.slice A3 n3 c3); have r0 := cell_of_row _ (w.heap.size + 1 + 1) 0 _ _ (0, 0) b2; have r1 := cell_of_row _ (w.heap.size + 1 + 1) 1 _ _ (0, 0) b2; simp only [sA, sZ, sS] at c0 c1 r0 r1; clear b1 b2; clear hb3; go_wp2
     refine bodyPost_ret (v := .agg #[.bool q3, .slice A3 n3 c3]) (by simp [results, Tryz.f28, go_sem, r0, r1]) rfl (HR.out _ _ ?_ ?_)
     ·exact grow_set2 (by omega) (GA.out.tr G5.out) _ _
     ·refine ⟨KB.out _ (Int.natAbs_add_le x y), _, by rw [HQ.out], ?_⟩
      rw [HN3.out]; exact ((HM3.out.set (fun b hb => by have := SZ4.out b hb.1; omega) _).set (fun b hb => by have := SZ4.out b hb.1; omega) _).into fun b hb => by have := SZ4.out b hb.1; omega
   | true =>
    cases q with
    | true => exact absurd rfl hne.out
    | false =>
     go_enter Tryz.func28, Tryz.ntmps28
     go_wp2_with fail
     rw [<- hwa]; clear hwa; go_at_call 44; refine SZ.out _ GA.out _ ?_; intro ww hww; have HWW := Lh hww; clear hww; go_wp2_with fail
     refine wp_region_lexT (Grow wa) (HWW.out.dr) 7 [0, 1, 2, 3, 4, 5, 6] (by kernel_rfl) (by kernel_rfl) (by intro c a d v w h; cases d <;> exact h) ?_
     iterate 6 (apply lext_take; exact rfl; exact rfl; (intro W hW; have z0 := cell_of_row _ w.heap.size 0 _ _ (0, 0) (K0.out _ hW); have z1 := cell_of_row _ w.heap.size 1 _ _ (0, 0) (K0.out _ hW); have y0 := cell_of_row _ (w.heap.size + 1) 0 _ _ (0, 0) (K1.out _ hW); have y1 := cell_of_row _ (w.heap.size + 1) 1 _ _ (0, 0) (K1.out _ hW); (try clear hW); go_simp; with_reducible rfl); try simp only [Act.put, sA, sZ, sS])
     apply lext_turn; exact rfl; exact rfl; exact rfl; intro K hK; go_simp; go_at_call 45; refine LE2.out _ (GA.out.tr HWW.out.dr) _ ?_; intro r4 ls w4 hown4 hwd4 hv4 hl4 hg4; have G4 := Lh (HWW.out.dr.tr hg4); have HO4 := Lh hown4; have HS4 := Lh hv4; have WD4 := Lh hwd4; have SZ4 : Hid (∀ b, (ww).heap.size <= b -> w.heap.size + 3 <= b) := fun b hb => by have := HWW.out.size; have := GS.out; omega
     refine hK.out _ _ G4.out ?_; clear hK hg4 hown4 hv4 hwd4
     try simp only [Act.put, sA, sZ, sS]
     refine lext_nil ?_; simp only [List.drop_succ_cons, List.drop_zero]; go_wp2_with fail
     go_at_call 42; refine made_any _ ls r4 _ w4 (Rd.own_from HO4.out) WD4.out (by omega) ?_; intro r w5 hg5 hr; rw [HS4.out, vw_wds, vw_wds, E.out] at hr; have hb3 := K2.out w5 (G4.out.tr hg5); have G5 := Lh (G4.out.tr hg5); clear hg5; obtain ⟨hk3, m3, rfl, hm3⟩ := hr; obtain ⟨A3, c3, rfl, g31, g32⟩ := rd_slice hm3; have HM3 := Lh hm3; generalize hn3 : (wds ((x + y)).natAbs).length = n3 at *; have HN3 := Lh hn3; have HK3 := Lh hk3; clear hm3 hk3 hn3; generalize hq : decide ((x + y) < 0) = q3 at *; have HQ := Lh hq; clear hq
     have c0 := cell_of_row _ (w.heap.size + 1 + 1) 0 _ _ (0, 0) hb3; have f0 := frozen_of_row _ (w.heap.size + 1 + 1) 0 _ _ hb3; have b1 := blk_set hb3 0 (.bool q3); have c1 := cell_of_row _ (w.heap.size + 1 + 1) 1 _ _ (0, 0) b1; have f1 := frozen_of_row _ (w.heap.size + 1 + 1) 1 _ _ b1; have b2 := blk_set b1 1 (.slice A3 n3 c3); have r0 := cell_of_row _ (w.heap.size + 1 + 1) 0 _ _ (0, 0) b2; have r1 := cell_of_row _ (w.heap.size + 1 + 1) 1 _ _ (0, 0) b2; simp only [sA, sZ, sS] at c0 c1 r0 r1; clear b1 b2; clear hb3; go_wp2
     refine bodyPost_ret (v := .agg #[.bool q3, .slice A3 n3 c3]) (by simp [results, Tryz.f28, go_sem, r0, r1]) rfl (HR.out _ _ ?_ ?_)
     ·exact grow_set2 (by omega) (GA.out.tr G5.out) _ _
     ·refine ⟨KB.out _ (Int.natAbs_add_le x y), _, by rw [HQ.out], ?_⟩
      rw [HN3.out]; exact ((HM3.out.set (fun b hb => by have := SZ4.out b hb.1; omega) _).set (fun b hb => by have := SZ4.out b hb.1; omega) _).into fun b hb => by have := SZ4.out b hb.1; omega
  ·obtain ⟨z, hz, hz0⟩ : ∃ z : Int, (if x.natAbs < y.natAbs then (-1 : Int) else if y.natAbs < x.natAbs then 1 else 0) = z /\ 0 <= z := ⟨_, rfl, by rw [if_neg hlt]; split <;> omega⟩
   have SZ := Lh fun W h (R : Ending -> World -> Prop) (hR : ∀ w', Grow W w' -> R (.returned (.int .i64 z)) w') => SZ.out W h R (by rw [hz]; exact hR)
   have t0 : decide (0 <= z) = true := by simp [hz0]
   have LE1 := Lh (LE1.out (Nat.le_of_not_lt hlt)); have E := Lh (sg_sub HP.out HQ0.out hne.out (Nat.le_of_not_lt hlt)); clear hlt hpq hz hz0
   cases p with
   | false =>
    cases q with
    | false => exact absurd rfl hne.out
    | true =>
     go_enter Tryz.func28, Tryz.ntmps28
     go_wp2_with fail
     rw [<- hwa]; clear hwa; go_at_call 44; refine SZ.out _ GA.out _ ?_; intro ww hww; have HWW := Lh hww; clear hww; go_wp2_with fail
     refine wp_region_lexT (Grow wa) (HWW.out.dr) 7 [0, 1, 2, 3, 4, 5, 6] (by kernel_rfl) (by kernel_rfl) (by intro c a d v w h; cases d <;> exact h) ?_
     iterate 6 (apply lext_take; exact rfl; exact rfl; (intro W hW; have z0 := cell_of_row _ w.heap.size 0 _ _ (0, 0) (K0.out _ hW); have z1 := cell_of_row _ w.heap.size 1 _ _ (0, 0) (K0.out _ hW); have y0 := cell_of_row _ (w.heap.size + 1) 0 _ _ (0, 0) (K1.out _ hW); have y1 := cell_of_row _ (w.heap.size + 1) 1 _ _ (0, 0) (K1.out _ hW); (try clear hW); go_simp; with_reducible rfl); try simp only [Act.put, sA, sZ, sS])
     apply lext_turn; exact rfl; exact rfl; exact rfl; intro K hK; go_simp; go_at_call 45; refine LE1.out _ (GA.out.tr HWW.out.dr) _ ?_; intro r4 ls w4 hown4 hwd4 hv4 hl4 hg4; have G4 := Lh (HWW.out.dr.tr hg4); have HO4 := Lh hown4; have HS4 := Lh hv4; have WD4 := Lh hwd4; have SZ4 : Hid (∀ b, (ww).heap.size <= b -> w.heap.size + 3 <= b) := fun b hb => by have := HWW.out.size; have := GS.out; omega
     refine hK.out _ _ G4.out ?_; clear hK hg4 hown4 hv4 hwd4
     try simp only [Act.put, sA, sZ, sS]
     refine lext_nil ?_; simp only [List.drop_succ_cons, List.drop_zero]; go_wp2_with fail
     go_at_call 42; refine made_any _ ls r4 _ w4 (Rd.own_from HO4.out) WD4.out (by omega) ?_; intro r w5 hg5 hr; rw [HS4.out, vw_wds, vw_wds, E.out] at hr; have hb3 := K2.out w5 (G4.out.tr hg5); have G5 := Lh (G4.out.tr hg5); clear hg5; obtain ⟨hk3, m3, rfl, hm3⟩ := hr; obtain ⟨A3, c3, rfl, g31, g32⟩ := rd_slice hm3; have HM3 := Lh hm3; generalize hn3 : (wds ((x + y)).natAbs).length = n3 at *; have HN3 := Lh hn3; have HK3 := Lh hk3; clear hm3 hk3 hn3; generalize hq : decide ((x + y) < 0) = q3 at *; have HQ := Lh hq; clear hq
     have c0 := cell_of_row _ (w.heap.size + 1 + 1) 0 _ _ (0, 0) hb3; have f0 := frozen_of_row _ (w.heap.size + 1 + 1) 0 _ _ hb3; have b1 := blk_set hb3 0 (.bool q3); have c1 := cell_of_row _ (w.heap.size + 1 + 1) 1 _ _ (0, 0) b1; have f1 := frozen_of_row _ (w.heap.size + 1 + 1) 1 _ _ b1; have b2 := blk_set b1 1 (.slice A3 n3 c3); have r0 := cell_of_row _ (w.heap.size + 1 + 1) 0 _ _ (0, 0) b2; have r1 := cell_of_row _ (w.heap.size + 1 + 1) 1 _ _ (0, 0) b2; simp only [sA, sZ, sS] at c0 c1 r0 r1; clear b1 b2; clear hb3; go_wp2
     refine bodyPost_ret (v := .agg #[.bool q3, .slice A3 n3 c3]) (by simp [results, Tryz.f28, go_sem, r0, r1]) rfl (HR.out _ _ ?_ ?_)
     ·exact grow_set2 (by omega) (GA.out.tr G5.out) _ _
     ·refine ⟨KB.out _ (Int.natAbs_add_le x y), _, by rw [HQ.out], ?_⟩
      rw [HN3.out]; exact ((HM3.out.set (fun b hb => by have := SZ4.out b hb.1; omega) _).set (fun b hb => by have := SZ4.out b hb.1; omega) _).into fun b hb => by have := SZ4.out b hb.1; omega
   | true =>
    cases q with
    | true => exact absurd rfl hne.out
    | false =>
     go_enter Tryz.func28, Tryz.ntmps28
     go_wp2_with fail
     rw [<- hwa]; clear hwa; go_at_call 44; refine SZ.out _ GA.out _ ?_; intro ww hww; have HWW := Lh hww; clear hww; go_wp2_with fail
     refine wp_region_lexT (Grow wa) (HWW.out.dr) 7 [0, 1, 2, 3, 4, 5, 6] (by kernel_rfl) (by kernel_rfl) (by intro c a d v w h; cases d <;> exact h) ?_
     iterate 6 (apply lext_take; exact rfl; exact rfl; (intro W hW; have z0 := cell_of_row _ w.heap.size 0 _ _ (0, 0) (K0.out _ hW); have z1 := cell_of_row _ w.heap.size 1 _ _ (0, 0) (K0.out _ hW); have y0 := cell_of_row _ (w.heap.size + 1) 0 _ _ (0, 0) (K1.out _ hW); have y1 := cell_of_row _ (w.heap.size + 1) 1 _ _ (0, 0) (K1.out _ hW); (try clear hW); go_simp; with_reducible rfl); try simp only [Act.put, sA, sZ, sS])
     apply lext_turn; exact rfl; exact rfl; exact rfl; intro K hK; go_simp; go_at_call 45; refine LE1.out _ (GA.out.tr HWW.out.dr) _ ?_; intro r4 ls w4 hown4 hwd4 hv4 hl4 hg4; have G4 := Lh (HWW.out.dr.tr hg4); have HO4 := Lh hown4; have HS4 := Lh hv4; have WD4 := Lh hwd4; have SZ4 : Hid (∀ b, (ww).heap.size <= b -> w.heap.size + 3 <= b) := fun b hb => by have := HWW.out.size; have := GS.out; omega
     refine hK.out _ _ G4.out ?_; clear hK hg4 hown4 hv4 hwd4
     try simp only [Act.put, sA, sZ, sS]
     refine lext_nil ?_; simp only [List.drop_succ_cons, List.drop_zero]; go_wp2_with fail
     go_at_call 42; refine made_any _ ls r4 _ w4 (Rd.own_from HO4.out) WD4.out (by omega) ?_; intro r w5 hg5 hr; rw [HS4.out, vw_wds, vw_wds, E.out] at hr; have hb3 := K2.out w5 (G4.out.tr hg5); have G5 := Lh (G4.out.tr hg5); clear hg5; obtain ⟨hk3, m3, rfl, hm3⟩ := hr; obtain ⟨A3, c3, rfl, g31, g32⟩ := rd_slice hm3; have HM3 := Lh hm3; generalize hn3 : (wds ((x + y)).natAbs).length = n3 at *; have HN3 := Lh hn3; have HK3 := Lh hk3; clear hm3 hk3 hn3; generalize hq : decide ((x + y) < 0) = q3 at *; have HQ := Lh hq; clear hq
     have c0 := cell_of_row _ (w.heap.size + 1 + 1) 0 _ _ (0, 0) hb3; have f0 := frozen_of_row _ (w.heap.size + 1 + 1) 0 _ _ hb3; have b1 := blk_set hb3 0 (.bool q3); have c1 := cell_of_row _ (w.heap.size + 1 + 1) 1 _ _ (0, 0) b1; have f1 := frozen_of_row _ (w.heap.size + 1 + 1) 1 _ _ b1; have b2 := blk_set b1 1 (.slice A3 n3 c3); have r0 := cell_of_row _ (w.heap.size + 1 + 1) 0 _ _ (0, 0) b2; have r1 := cell_of_row _ (w.heap.size + 1 + 1) 1 _ _ (0, 0) b2; simp only [sA, sZ, sS] at c0 c1 r0 r1; clear b1 b2; clear hb3; go_wp2
     refine bodyPost_ret (v := .agg #[.bool q3, .slice A3 n3 c3]) (by simp [results, Tryz.f28, go_sem, r0, r1]) rfl (HR.out _ _ ?_ ?_)
     ·exact grow_set2 (by omega) (GA.out.tr G5.out) _ _
     ·refine ⟨KB.out _ (Int.natAbs_add_le x y), _, by rw [HQ.out], ?_⟩
      rw [HN3.out]; exact ((HM3.out.set (fun b hb => by have := SZ4.out b hb.1; omega) _).set (fun b hb => by have := SZ4.out b hb.1; omega) _).into fun b hb => by have := SZ4.out b hb.1; omega
end Go.Proofs.YteeeeddeacepmaaGreatDoor
namespace Go.Proofs.YteeeeddeacepmaaGreatDoor
set_option maxRecDepth 100000
open Go.RowKit Go.Lib B
theorem BigR.parts {w : World} {S : Nat -> Prop} {v : Value} {z : Int} {k : Nat} (h : BigR w S v z k) : ∃ p A n c, v = .agg #[.bool p, .slice A n c] := by
 obtain ⟨_, m, rfl, hm⟩ := h; obtain ⟨A, c, rfl, _, _⟩ := rd_slice hm; exact ⟨_, _, _, _, rfl⟩
set_option maxHeartbeats 2000000 in
theorem sub_any (x y : Int) (k1 k2 : Nat) (a b : Value) (S T : Nat -> Prop) (w : World) (ha : BigR w S a x k1) (hb : BigR w T b y k2) (hk1 : k1 <= 30000) (hk2 : k2 <= 30000) {R : Ending -> World -> Prop}
  (hR : ∀ r w', Grow w w' -> BigR w' (fun b => w.heap.size <= b) r (x - y) (max k1 k2 + 1) -> R (.returned r) w') :
  Calls Tryz.prog 46 #[a, b] w R := by
 rw [Int.sub_eq_add_neg] at hR; have HR := Lh hR; clear hR; obtain ⟨p, A1, n1, c1, rfl⟩ := ha.parts; obtain ⟨q, A2, n2, c2, rfl⟩ := hb.parts; have HA := Lh ha; have HB := Lh hb; clear ha hb
 obtain ⟨wa, hwa⟩ : ∃ wa, wa = (((w.alloc (.cells #[.bool p, .slice A1 n1 c1] 40)).alloc (.cells #[.bool q, .slice A2 n2 c2] 40)).alloc (.cells #[.bool false, .slice none 0 0] 40)) := ⟨_, rfl⟩
 have K0 : Hid (∀ W, Grow wa W -> W.heap[w.heap.size]? = some (.cells #[.bool p, .slice A1 n1 c1] 40 (0, 0))) := fun W h => by
  subst hwa; exact blk_al w _ _ ((((Grow.refl _).al _).al _).tr h)
 have K1 : Hid (∀ W, Grow wa W -> W.heap[w.heap.size + 1]? = some (.cells #[.bool q, .slice A2 n2 c2] 40 (0, 0))) := fun W h => by
  subst hwa; have := blk_al (w.alloc (.cells #[.bool p, .slice A1 n1 c1] 40)) _ _ (((Grow.refl _).al _).tr h)
  rwa [World.size_alloc] at this
 have K2 : Hid (∀ W, Grow wa W -> W.heap[w.heap.size + 1 + 1]? = some (.cells #[.bool false, .slice none 0 0] 40 (0, 0))) := fun W h => by
  subst hwa; have := blk_al _ _ _ h
  rwa [World.size_alloc, World.size_alloc] at this
 have GA : Hid (Grow w wa) := by
  subst hwa; exact (((Grow.refl w).al _).al _).al _
 have GS : Hid (wa.heap.size = w.heap.size + 3) := by
  subst hwa; show _ = _; rw [World.size_alloc, World.size_alloc, World.size_alloc]
 go_enter Tryz.func46, Tryz.ntmps46
 go_wp2_with fail
 rw [<- hwa]; clear hwa; refine wp_region_lexT (Grow wa) ((Grow.refl wa).dr) 3 [0, 1, 2] (by kernel_rfl) (by kernel_rfl) (by intro c a d v w h; cases d <;> exact h) ?_
 iterate 2 (apply lext_take; exact rfl; exact rfl; (intro W hW; have z0 := cell_of_row _ w.heap.size 0 _ _ (0, 0) (K0.out _ hW); have z1 := cell_of_row _ w.heap.size 1 _ _ (0, 0) (K0.out _ hW); have y0 := cell_of_row _ (w.heap.size + 1) 0 _ _ (0, 0) (K1.out _ hW); have y1 := cell_of_row _ (w.heap.size + 1) 1 _ _ (0, 0) (K1.out _ hW); (try clear hW); go_simp; with_reducible rfl); try simp only [Act.put, sA, sZ, sS])
 apply lext_turn; exact rfl; exact rfl; exact rfl; intro K hK; go_simp; go_at_call 35; refine neg_any y k2 _ _ _ (HB.out.gr (GA.out.tr (Grow.refl wa).dr)) (by omega) ?_; intro r4 w4 hg4 hr4; have G4 := Lh ((Grow.refl wa).dr.tr hg4); have HR4 := Lh hr4; refine hK.out _ _ G4.out ?_; clear hK hg4 hr4
 try simp only [Act.put, sA, sZ, sS]
 refine lext_nil ?_; simp only [List.drop_succ_cons, List.drop_zero]; go_wp2_with fail
 go_at_call 28; refine add_any x (-y) k1 k2 _ _ _ _ w4 (HA.out.gr (GA.out.tr G4.out)) HR4.out hk1 hk2 ?_; intro r w5 hg5 hr; have hb3 := K2.out w5 (G4.out.tr hg5); have G5 := Lh (G4.out.tr hg5); have SZ4 : Hid (∀ b, w4.heap.size <= b -> w.heap.size + 3 <= b) := fun b hb => by have := G4.out.size; have := GS.out; omega
 clear hg5; obtain ⟨hk3, m3, rfl, hm3⟩ := hr; obtain ⟨A3, c3, rfl, g31, g32⟩ := rd_slice hm3; have HM3 := Lh hm3; generalize hn3 : (wds ((x + -y)).natAbs).length = n3 at *; have HN3 := Lh hn3; have HK3 := Lh hk3; clear hm3 hk3 hn3; generalize hq : decide ((x + -y) < 0) = q3 at *; have HQ := Lh hq; clear hq; have c0 := cell_of_row _ (w.heap.size + 1 + 1) 0 _ _ (0, 0) hb3; have f0 := frozen_of_row _ (w.heap.size + 1 + 1) 0 _ _ hb3; have b1 := blk_set hb3 0 (.bool q3); have c1 := cell_of_row _ (w.heap.size + 1 + 1) 1 _ _ (0, 0) b1
 have f1 := frozen_of_row _ (w.heap.size + 1 + 1) 1 _ _ b1; have b2 := blk_set b1 1 (.slice A3 n3 c3); have r0 := cell_of_row _ (w.heap.size + 1 + 1) 0 _ _ (0, 0) b2; have r1 := cell_of_row _ (w.heap.size + 1 + 1) 1 _ _ (0, 0) b2; simp only [sA, sZ, sS] at c0 c1 r0 r1; clear b1 b2; clear hb3; go_wp2; refine bodyPost_ret (v := .agg #[.bool q3, .slice A3 n3 c3]) (by simp [results, Tryz.f46, go_sem, r0, r1]) rfl (HR.out _ _ ?_ ?_)
 ·exact grow_set2 (by omega) (GA.out.tr G5.out) _ _
 ·refine ⟨by rw [HN3.out]; exact HK3.out, _, by rw [HQ.out], ?_⟩
  rw [HN3.out]; exact ((HM3.out.set (fun b hb => by have := SZ4.out b hb; omega) _).set (fun b hb => by have := SZ4.out b hb; omega) _).into fun b hb => by have := SZ4.out b hb; omega
set_option maxHeartbeats 1000000 in
theorem cmp_any (x y : Int) (k1 k2 : Nat) (a b : Value) (S T : Nat -> Prop) (w : World) (ha : BigR w S a x k1) (hb : BigR w T b y k2) (hk1 : k1 <= 30000) (hk2 : k2 <= 30000) {R : Ending -> World -> Prop}
  (hR : ∀ w', Grow w w' -> R (.returned (.int .i64 (x - y).sign)) w') :
  Calls Tryz.prog 31 #[a, b] w R := by
 have HR := Lh hR; clear hR; obtain ⟨p, A1, n1, c1, rfl⟩ := ha.parts; obtain ⟨q, A2, n2, c2, rfl⟩ := hb.parts; have HA := Lh ha; have HB := Lh hb; clear ha hb; go_enter Tryz.func31, Tryz.ntmps31
 go_wp2_with fail
 have GA := Lh (((Grow.refl w).al (.cells #[.bool p, .slice A1 n1 c1] 40)).al (.cells #[.bool q, .slice A2 n2 c2] 40)); go_at_call 46; refine sub_any x y k1 k2 _ _ _ _ _ (HA.out.gr GA.out) (HB.out.gr GA.out) hk1 hk2 ?_; intro r w4 hg4 hr4; have G4 := Lh (GA.out.tr hg4); have HR4 := Lh hr4; clear hg4 hr4; go_wp2_with fail
 go_at_call 34; refine sign_any (x - y) _ _ _ w4 HR4.out (by omega) ?_; intro w5 hg5; have G5 := Lh (G4.out.tr hg5); clear hg5; go_wp2; exact HR.out _ G5.out
theorem wds_int {n : Int} (h : I64 n) : (wds n.natAbs).length <= 4 := by
 refine wds_len_le 4 _ ?_; have e : 65536 ^ 4 = 18446744073709551616 := by decide
 obtain ⟨h1, h2⟩ := h; omega
set_option maxHeartbeats 2000000 in
theorem int_any (n : Int) (w : World) (hn : I64 n) {R : Ending -> World -> Prop}
  (hR : ∀ v w', Grow w w' -> BigR w' (fun b => w.heap.size <= b) v n 4 -> R (.returned v) w') :
  Calls Tryz.prog 30 #[.int .i64 n] w R := by
 have HR := Lh hR; clear hR; have HI := Lh (wds_int hn); obtain ⟨n1, n2⟩ := hn
 by_cases h0 : n < 0
 ·obtain ⟨m, hm⟩ : ∃ m : Nat, (m : Int) = -(n + 1) := ⟨(-(n + 1)).toNat, by omega⟩
  obtain rfl : n = -(m : Int) - 1 := by omega
  have e1 : (-(m : Int) - 1 + 1) = -(m : Int) := by omega
  have t0 : decide (-(m : Int) - 1 < 0) = true := by simp; omega
  clear hm h0; go_enter Tryz.func30, Tryz.ntmps30
  go_wp2_with fail
  go_at_call 27; clear t0; refine word_any m _ (by omega) ?_; intro r4 w4 hg4 hr4; obtain ⟨p, A4, n4, c4, rfl⟩ := hr4.parts; have G4 := Lh hg4; have HR4 := Lh hr4; clear hg4 hr4; go_wp2_with fail
  have GB := Lh ((Grow.refl w4).al (.cells #[.bool p, .slice A4 n4 c4] 40)); go_at_call 35; refine neg_any m 4 _ _ _ (HR4.out.gr GB.out) (by omega) ?_; intro r5 w5 hg5 hr5; have G5 := Lh ((G4.out.tr GB.out).tr hg5); have HR5 := Lh hr5; clear hg5 hr5; go_wp2_with fail
  go_at_call 27; refine word_any 1 _ (by omega) ?_; intro r6 w6 hg6 hr6; have G6 := Lh (G5.out.tr hg6); have HR5 := Lh (HR5.out.gr hg6); have HR6 := Lh hr6; clear hg6 hr6; go_wp2_with fail
  go_at_call 46; refine sub_any (-(m : Int)) ((1 : Nat) : Int) 4 4 _ _ _ _ w6 HR5.out HR6.out (by omega) (by omega) ?_; intro r w7 hg7 hr; have G7 := Lh (G6.out.tr hg7); have hb3 := blk_al _ _ _ G7.out; have SZ6 : Hid (∀ b, w6.heap.size <= b -> w.heap.size + 1 <= b) := fun b hb => by have := G6.out.size; rw [World.size_alloc] at this; omega
  clear hg7; obtain ⟨hk3, m3, rfl, hm3⟩ := hr; obtain ⟨A3, c3, rfl, g31, g32⟩ := rd_slice hm3; have HM3 := Lh hm3; generalize hn3 : (wds ((-(m : Int) - ((1 : Nat) : Int))).natAbs).length = n3 at *; have HN3 := Lh hn3; have HK3 := Lh hk3; clear hm3 hk3 hn3; generalize hq : decide ((-(m : Int) - ((1 : Nat) : Int)) < 0) = q3 at *; have HQ := Lh hq; clear hq; have c0 := cell_of_row _ (w.heap.size) 0 _ _ (0, 0) hb3; have f0 := frozen_of_row _ (w.heap.size) 0 _ _ hb3; have b1 := blk_set hb3 0 (.bool q3); have c1 := cell_of_row _ (w.heap.size) 1 _ _ (0, 0) b1
  have f1 := frozen_of_row _ (w.heap.size) 1 _ _ b1; have b2 := blk_set b1 1 (.slice A3 n3 c3); have r0 := cell_of_row _ (w.heap.size) 0 _ _ (0, 0) b2; have r1 := cell_of_row _ (w.heap.size) 1 _ _ (0, 0) b2; simp only [sA, sZ, sS] at c0 c1 r0 r1; clear b1 b2; clear hb3; go_wp2; refine bodyPost_ret (v := .agg #[.bool q3, .slice A3 n3 c3]) (by simp [results, Tryz.f30, go_sem, r0, r1]) rfl (HR.out _ _ ?_ ?_)
  ·exact grow_set2 (by omega) (((Grow.refl w).al _).tr G7.out) _ _
  ·refine ⟨by have := HI.out; have := HN3.out; simp only [Int.natCast_one] at this; omega, _, by rw [<- HQ.out]; rfl, ?_⟩
   have hn3 := HN3.out; simp only [Int.natCast_one] at hn3; rw [hn3]; exact ((HM3.out.set (fun b hb => by have := SZ6.out b hb; omega) _).set (fun b hb => by have := SZ6.out b hb; omega) _).into fun b hb => by have := SZ6.out b hb; omega
 ·obtain ⟨m, rfl⟩ : ∃ m : Nat, n = m := ⟨n.toNat, by omega⟩
  clear h0; go_enter Tryz.func30, Tryz.ntmps30
  go_wp2_with fail
  go_at_call 27; refine word_any m _ (by omega) ?_; intro r w7 hg7 hr; have G7 := Lh hg7; have hb3 := blk_al _ _ _ G7.out; clear hg7; obtain ⟨hk3, m3, rfl, hm3⟩ := hr; obtain ⟨A3, c3, rfl, g31, g32⟩ := rd_slice hm3; have HM3 := Lh hm3; generalize hn3 : (wds (((m : Nat) : Int)).natAbs).length = n3 at *; have HN3 := Lh hn3; have HK3 := Lh hk3; clear hm3 hk3 hn3; generalize hq : decide (((m : Nat) : Int) < 0) = q3 at *; have HQ := Lh hq; clear hq; have c0 := cell_of_row _ (w.heap.size) 0 _ _ (0, 0) hb3; have f0 := frozen_of_row _ (w.heap.size) 0 _ _ hb3
  have b1 := blk_set hb3 0 (.bool q3); have c1 := cell_of_row _ (w.heap.size) 1 _ _ (0, 0) b1; have f1 := frozen_of_row _ (w.heap.size) 1 _ _ b1; have b2 := blk_set b1 1 (.slice A3 n3 c3); have r0 := cell_of_row _ (w.heap.size) 0 _ _ (0, 0) b2; have r1 := cell_of_row _ (w.heap.size) 1 _ _ (0, 0) b2; simp only [sA, sZ, sS] at c0 c1 r0 r1; clear b1 b2; clear hb3; go_wp2; refine bodyPost_ret (v := .agg #[.bool q3, .slice A3 n3 c3]) (by simp [results, Tryz.f30, go_sem, r0, r1]) rfl (HR.out _ _ ?_ ?_)
  ·exact grow_set2 (by omega) (((Grow.refl w).al _).tr G7.out) _ _
  ·refine ⟨by rw [HN3.out]; exact HI.out, _, by rw [HQ.out], ?_⟩
   rw [HN3.out]; exact ((HM3.out.set (fun b hb => by have := hb; rw [World.size_alloc] at this; omega) _).set (fun b hb => by have := hb; rw [World.size_alloc] at this; omega) _).into fun b hb => by have := hb; rw [World.size_alloc] at this; omega
end Go.Proofs.YteeeeddeacepmaaGreatDoor
namespace Go.Proofs.YteeeeddeacepmaaGreatDoor
set_option maxRecDepth 100000
open Go.RowKit Go.Lib B
theorem mk_w64 (n : Nat) (hn : n <= 1000000) (w : World) : (Instr.makeSlice 38 (.int .i64 (n : Int)) (.int .i64 (n : Int))).run Tryz.prog w = .ok (.slice (some ⟨w.heap.size, 0, none⟩) n n) (w.alloc (.cells (madeCells #[.int .u64 0] n) 25)) :=
 run_make_row' 38 25 (.int .u64 0) 8 (by kernel_rfl) (by kernel_rfl) rfl .i64 .i64 n (by omega) (by omega) w
theorem made_w64 (n : Nat) : (madeCells #[.int .u64 0] n).toList = W64 (List.replicate n 0) := by
 rw [toList_madeCells_one]; simp [W64]
theorem wd_zero (n : Nat) : Wd (List.replicate n 0) := fun x hx => by rw [(List.mem_replicate.1 hx).2]; decide
theorem vw_rep (n : Nat) : vw (List.replicate n 0) = 0 := vw_zero _ fun _ hx => (List.mem_replicate.1 hx).2
theorem mul_step {P t Q V c m z : Nat} (hV : V + P * m = Q + P * (t % 65536)) (ht : t = c + m + z) : V + P * 65536 * (t / 65536) = Q + P * c + P * z := by
 have h : P * t = P * (t % 65536) + P * 65536 * (t / 65536) := by
  rw [Nat.mul_assoc, <- Nat.mul_add]; congr 1
  omega
 have h2 : P * t = P * c + P * m + P * z := by rw [ht, Nat.mul_add, Nat.mul_add]
 omega
theorem mul_next {i k a b Q u : Nat} : Q + 65536 ^ i * (a * u) + 65536 ^ (i + k) * (a * b) = Q + 65536 ^ i * (a * (u + 65536 ^ k * b)) := by
 rw [Nat.pow_add, Nat.mul_add, Nat.mul_add, Nat.add_assoc, Nat.mul_assoc, Nat.mul_left_comm (65536 ^ k)]
theorem mul_out {i a u L : Nat} : u * L + 65536 ^ i * (a * L) = (u + 65536 ^ i * a) * L := by
 rw [Nat.add_mul, Nat.mul_assoc]
theorem vw_set0 {l : List Nat} {j y : Nat} (hj : j < l.length) (h0 : l[j] = 0) : vw (l.set j y) = vw l + 65536 ^ j * y := by
 have := vw_set l j y hj; rw [h0] at this; simpa using this
set_option maxHeartbeats 2000000 in
theorem mul_any (x y : Int) (k1 k2 : Nat) (a b : Value) (S T : Nat -> Prop) (w : World) (ha : BigR w S a x k1) (hb : BigR w T b y k2) (hk1 : k1 <= 30000) (hk2 : k2 <= 30000) {R : Ending -> World -> Prop}
  (hR : ∀ r w', Grow w w' -> BigR w' (fun b => w.heap.size <= b) r (x * y) (k1 + k2) -> R (.returned r) w') :
  Calls Tryz.prog 29 #[a, b] w R := by
 have HR := Lh hR; clear hR; obtain ⟨l1, m1, rfl, hm1⟩ := ha; obtain ⟨l2, m2, rfl, hm2⟩ := hb; obtain ⟨A1, c1, rfl, g11, g12⟩ := rd_slice hm1; obtain ⟨A2, c2, rfl, g21, g22⟩ := rd_slice hm2
 have KB : Hid ((wds (x * y).natAbs).length <= k1 + k2) := by
  show _ <= _; have := wds_mul_len x.natAbs y.natAbs; rw [Int.natAbs_mul]; omega
 have SG : Hid (sg (decide (x < 0) != decide (y < 0)) (x.natAbs * y.natAbs) = x * y) := by
  show _ = _
  by_cases hx : x < 0 <;> by_cases hy : y < 0 <;> simp only [sg, hx, hy, decide_true, decide_false, bne_self_eq_false, Bool.false_eq_true, if_false, if_true, Bool.true_bne, Bool.false_bne, Bool.not_false]
  all_goals rw [Int.natCast_mul]
  ·rw [Int.ofNat_natAbs_of_nonpos (Int.le_of_lt hx), Int.ofNat_natAbs_of_nonpos (Int.le_of_lt hy), Int.neg_mul_neg]
  ·rw [Int.ofNat_natAbs_of_nonpos (Int.le_of_lt hx), Int.natAbs_of_nonneg (by omega), Int.neg_mul, Int.neg_neg]
  ·rw [Int.ofNat_natAbs_of_nonpos (Int.le_of_lt hy), Int.natAbs_of_nonneg (by omega), Int.mul_neg, Int.neg_neg]
  ·rw [Int.natAbs_of_nonneg (by omega), Int.natAbs_of_nonneg (by omega)]
 have HM1 := Lh hm1; have HM2 := Lh hm2; have W1 := Lh (wd_wds x.natAbs); have W2 := Lh (wd_wds y.natAbs); have V1 := Lh (vw_wds x.natAbs); have V2 := Lh (vw_wds y.natAbs); clear hm1 hm2; generalize decide (x < 0) = p at *; generalize decide (y < 0) = q at *; generalize wds x.natAbs = la at *; generalize wds y.natAbs = lb at *
 obtain ⟨N, hsum, hN⟩ : ∃ N : Nat, (la.length : Int) + lb.length = N /\ Hid (la.length + lb.length = N) := ⟨la.length + lb.length, by omega, rfl⟩
 have hNb : N <= 100000 := by have := hN.out; omega
 have hmk := mk_w64 N (by omega)
 obtain ⟨wa, hwa⟩ : ∃ wa, wa = (((w.alloc (.cells #[.bool p, .slice A1 la.length c1] 40)).alloc (.cells #[.bool q, .slice A2 lb.length c2] 40)).alloc (.cells #[.bool false, .slice none 0 0] 40)) := ⟨_, rfl⟩
 have K0 : Hid (∀ W, Grow wa W -> W.heap[w.heap.size]? = some (.cells #[.bool p, .slice A1 la.length c1] 40 (0, 0))) := fun W h => by
  subst hwa; exact blk_al w _ _ ((((Grow.refl _).al _).al _).tr h)
 have K1 : Hid (∀ W, Grow wa W -> W.heap[w.heap.size + 1]? = some (.cells #[.bool q, .slice A2 lb.length c2] 40 (0, 0))) := fun W h => by
  subst hwa; have := blk_al (w.alloc (.cells #[.bool p, .slice A1 la.length c1] 40)) _ _ (((Grow.refl _).al _).tr h)
  rwa [World.size_alloc] at this
 have K2 : Hid (∀ W, Grow wa W -> W.heap[w.heap.size + 1 + 1]? = some (.cells #[.bool false, .slice none 0 0] 40 (0, 0))) := fun W h => by
  subst hwa; have := blk_al _ _ _ h
  rwa [World.size_alloc, World.size_alloc] at this
 have GA : Hid (Grow w wa) := by
  subst hwa; exact (((Grow.refl w).al _).al _).al _
 have GS : Hid (wa.heap.size = w.heap.size + 3) := by
  subst hwa; show _ = _; rw [World.size_alloc, World.size_alloc, World.size_alloc]
 go_enter Tryz.func29, Tryz.ntmps29
 go_wp2_with fail
 rw [<- hwa]; clear hwa hmk; have hz := Lh (World.ownsRow_lit (base := w.heap.size + 3) (e := 25) (size := 1) wa (madeCells #[.int .u64 0] N) N (by have := GS.out; omega) (by have := hN.out; simp only [maxLen]; omega) (by simp [size_madeCells])); have GZ : Hid (Grow wa (wa.alloc (.cells (madeCells #[.int .u64 0] N) 25))) := (Grow.refl wa).al _
 have hG : Hid (∃ g, wa.heap.size = g /\ w.heap.size + 1 + 1 + 1 = g) := ⟨_, rfl, by have := GS.out; omega⟩
 obtain ⟨g, hg1, hg2⟩ := hG.out; rw [hg1] at hz; have hlen1 := Lh hN.out; generalize wa.alloc (.cells (madeCells #[.int .u64 0] N) 25) = wb at *; have HGE : Hid (wa.heap.size <= g /\ w.heap.size + 3 <= g) := by have := GS.out; exact ⟨by omega, by omega⟩
 simp only [hg2]; clear hg1 hg2 hG; rw [made_w64] at hz
 go_loopw [6] (fun s6 wr => ∃ (i : Nat) (ms : List Nat), s6 = .int .i64 i /\ i <= la.length /\ wr.ownsRow (w.heap.size + 3) 25 1 (.slice (some ⟨g, 0, none⟩) N N) N (W64 ms) /\ Hid (ms.length = N) /\ Hid (Wd ms) /\ Hid (∀ j (h : j < ms.length), i + lb.length <= j -> ms[j] = 0) /\ Hid (vw ms = vw (la.take i) * vw lb) /\ Hid (Grow wa wr)) (fun s6 _ => la.length - (intOf s6).toNat)
 case atStart => exact ⟨0, List.replicate N 0, rfl, Nat.zero_le _, hz.out, by show _ = _; simp, wd_zero N, fun j h _ => by simp, by show _ = _; simp [vw_rep, vw], GZ.out⟩
 case round =>
  obtain ⟨i, ms, rfl, hi, hown, hml, hmw, hmz, hmv, hg⟩ := hrel; have z0 := cell_of_row _ w.heap.size 0 _ _ (0, 0) (K0.out _ (hg.out)); have z1 := cell_of_row _ w.heap.size 1 _ _ (0, 0) (K0.out _ (hg.out)); have y0 := cell_of_row _ (w.heap.size + 1) 0 _ _ (0, 0) (K1.out _ (hg.out)); have y1 := cell_of_row _ (w.heap.size + 1) 1 _ _ (0, 0) (K1.out _ (hg.out))
  by_cases hlt : i < la.length
  ·go_wp2_with fail
   clear z0 z1 y0 y1; obtain ⟨b1, o1, rfl, d1⟩ := rd_at HM1.out (GA.out.tr (Grow.refl wa)) (W64_at la _ hlt); have XA := Lh (W1.out _ (List.getElem_mem hlt)); have TA := Lh (vw_take hlt); have D1 := Lh fun W (h : Grow wa W) => (h.cell (World.block_lt_of_cell? wa _ d1)).trans d1
   generalize la[i]'hlt = x1 at *; clear d1; have HOW := Lh hown; have HLT := Lh hlt; clear hown hi hlt
   go_loopw [7, 8] (fun s7 s8 wr => ∃ (k c : Nat) (ns : List Nat), s7 = .int .u64 c /\ s8 = .int .i64 k /\ k <= lb.length /\ c <= 65535 /\ wr.ownsRow (w.heap.size + 3) 25 1 (.slice (some ⟨g, 0, none⟩) N N) N (W64 ns) /\ Hid (ns.length = N) /\ Hid (Wd ns) /\ Hid (∀ j (h : j < ns.length), i + lb.length <= j -> ns[j] = 0) /\ Hid (vw ns + 65536 ^ (i + k) * c = vw (la.take i) * vw lb + 65536 ^ i * (x1 * vw (lb.take k))) /\ Hid (Grow wa wr)) (fun _ s8 _ => lb.length - (intOf s8).toNat)
   case atStart => exact ⟨0, 0, ms, rfl, rfl, Nat.zero_le _, by omega, HOW.out, hml.out, hmw.out, hmz.out, by show _ = _; simp [vw, hmv.out], hg.out⟩
   case round =>
    obtain ⟨k, c, ns, rfl, rfl, hk, hc, hown, hnl, hnw, hnz, hnv, hgi⟩ := hrel; have z0 := cell_of_row _ w.heap.size 0 _ _ (0, 0) (K0.out _ (hgi.out)); have z1 := cell_of_row _ w.heap.size 1 _ _ (0, 0) (K0.out _ (hgi.out)); have y0 := cell_of_row _ (w.heap.size + 1) 0 _ _ (0, 0) (K1.out _ (hgi.out)); have y1 := cell_of_row _ (w.heap.size + 1) 1 _ _ (0, 0) (K1.out _ (hgi.out)); have fz := hown.frozenAt
    obtain ⟨j, hj1, hj2⟩ : ∃ j : Nat, (i : Int) + k = j /\ Hid (i + k = j) := ⟨i + k, by omega, rfl⟩
    by_cases hlt2 : k < lb.length
    ·have hjN : j < N := by have := hj2.out; have := HLT.out; have := hN.out; omega
     have hjn : j < ns.length := by rw [hnl.out]; exact hjN
     obtain ⟨b2, o2, rfl, d2⟩ := rd_at HM2.out (GA.out.tr hgi.out) (W64_at lb _ hlt2); have d1 := D1.out _ hgi.out
     have cj : wr.cell? ⟨g, j, none⟩ = some (.int .u64 (ns[j]'hjn : Nat)) := by
      have := hown.cellAt j (by simpa using hjN); rw [this]; exact W64_at ns j hjn
     have VS := Lh fun y => vw_set ns j y hjn
     have X1 := XA.out; have X2 := W2.out _ (List.getElem_mem hlt2); have X3 := hnw.out _ (List.getElem_mem hjn); have TB := Lh (vw_take hlt2); generalize lb[k]'hlt2 = x2 at *; generalize ns[j]'hjn = x3 at *
     obtain ⟨z, hz1, hz2⟩ : ∃ z : Nat, (x1 : Int) * x2 = z /\ Hid (x1 * x2 = z) := ⟨x1 * x2, by exact_mod_cast rfl, rfl⟩
     have hz3 : z <= 65535 * 65535 := by rw [<- hz2.out]; exact Nat.mul_le_mul (by omega) (by omega)
     have hj0 : Hid (j < N) := hjN; have ST := Lh fun n v => ((own_grow hown ((Grow.refl _).dn n)).stored j v).1
     clear hown hjn; go_wp2; have hlt := HLT.out; have hwj : IntKind.i64.wrap (j : Int) = j := IntWalk.i64_in _ (by omega); have hwz : IntKind.u64.wrap (z : Int) = z := IntWalk.u64_in _ (by omega); have hw1 : IntKind.u64.wrap ((c : Int) + x3) = (c : Int) + x3 := IntWalk.u64_in _ (by omega); have hw2 : IntKind.u64.wrap ((c : Int) + x3 + z) = (c : Int) + x3 + z := IntWalk.u64_in _ (by omega)
     go_quiet (fail)
     go_wp2; go_roundw
     case rel =>
      refine ⟨k + 1, (c + x3 + z) / 65536, ns.set j ((c + x3 + z) % 65536), by go_num, by go_num, by omega, by omega, own_eq (ST.out _ _) rfl ?_, ?_, ?_, ?_, ?_, (hgi.out.dn _).set (p := ⟨g, j, none⟩) HGE.out.1 _⟩
      ·rw [W64_set]
       rfl
      ·show _ = _
       rw [List.length_set]; exact hnl.out
      ·exact wd_set hnw.out (by omega)
      ·intro j' h' hj'
       rw [List.getElem_set_ne (by have := hj2.out; omega)]; exact hnz.out j' (by simpa using h') hj'
      ·show _ = _
       have hV := VS.out ((c + x3 + z) % 65536); rw [<- hj2.out] at hV ⊢; rw [<- Nat.add_assoc, Nat.pow_succ, mul_step hV rfl, hnv.out, TB.out, <- hz2.out]; exact mul_next
     case measure => simp [intOf]; omega
    ·obtain rfl : k = lb.length := by omega
     have hjN : j < N := by have := hj2.out; have := HLT.out; have := hN.out; omega
     have hjn : j < ns.length := by rw [hnl.out]; exact hjN
     have h0 := hnz.out j hjn (by have := hj2.out; omega)
     have cj : wr.cell? ⟨g, j, none⟩ = some (.int .u64 (ns[j]'hjn : Nat)) := by
      have := hown.cellAt j (by simpa using hjN); rw [this]; exact W64_at ns j hjn
     rw [h0] at cj; have VS := Lh (vw_set0 (y := c) hjn h0); have ST := Lh fun n v => ((own_grow hown ((Grow.refl _).dn n)).stored j v).1
     have HI := Lh (show i + 1 <= la.length from HLT.out); clear hown hjn h0; go_wp2; go_roundw
     case rel =>
      refine ⟨i + 1, ns.set j c, by go_num, HI.out, own_eq (ST.out 0 _) rfl ?_, ?_, ?_, ?_, ?_, hgi.out.set (p := ⟨g, j, none⟩) HGE.out.1 _⟩
      ·rw [W64_set]
      ·show _ = _
       rw [List.length_set]; exact hnl.out
      ·exact wd_set hnw.out (by omega)
      ·intro j' h' hj'
       rw [List.getElem_set_ne (by have := hj2.out; omega)]; exact hnz.out j' (by simpa using h') (by have := hj2.out; omega)
      ·show _ = _
       rw [VS.out, <- hj2.out, hnv.out, TA.out, List.take_length]; exact mul_out
     case measure => simp [intOf] <;> (have := HI.out; omega)
  ·obtain rfl : i = la.length := by omega
   have HV : Hid (vw ms = x.natAbs * y.natAbs) := by
    show _ = _; rw [hmv.out, List.take_length, V1.out, V2.out]
   have HO := Lh hown; have HML := Lh (show N <= 100000 by have := hN.out; omega); clear hown
   have SZ3 : Hid (∀ b, w.heap.size + 3 <= b -> w.heap.size <= b /\ b ≠ w.heap.size + 1 + 1) := fun b hb => ⟨by omega, by omega⟩
   clear z0 z1 y0 y1
   cases p with
   | false =>
    cases q with
    | false =>
     have z0 := cell_of_row _ w.heap.size 0 _ _ (0, 0) (K0.out _ (hg.out)); have z1 := cell_of_row _ w.heap.size 1 _ _ (0, 0) (K0.out _ (hg.out)); have y0 := cell_of_row _ (w.heap.size + 1) 0 _ _ (0, 0) (K1.out _ (hg.out)); have y1 := cell_of_row _ (w.heap.size + 1) 1 _ _ (0, 0) (K1.out _ (hg.out)); go_wp2_with fail
     go_at_call 42; refine made_any _ ms _ _ wr (by rw [hml.out]; exact Rd.own_from HO.out) hmw.out (by rw [hml.out]; exact HML.out) ?_; intro r w5 hg5 hr; rw [HV.out, (show sg false (x.natAbs * y.natAbs) = x * y from SG.out)] at hr; have hb3 := K2.out w5 (hg.out.tr hg5); have G5 := Lh (hg.out.tr hg5); clear hg5; obtain ⟨hk3, m3, rfl, hm3⟩ := hr; obtain ⟨A3, c3, rfl, g31, g32⟩ := rd_slice hm3; have HM3 := Lh hm3; generalize hn3 : (wds ((x * y)).natAbs).length = n3 at *; have HN3 := Lh hn3; have HK3 := Lh hk3; clear hm3 hk3 hn3; generalize hq : decide ((x * y) < 0) = q3 at *
     have HQ := Lh hq; clear hq; have c0 := cell_of_row _ (w.heap.size + 1 + 1) 0 _ _ (0, 0) hb3; have f0 := frozen_of_row _ (w.heap.size + 1 + 1) 0 _ _ hb3; have b1 := blk_set hb3 0 (.bool q3); have c1 := cell_of_row _ (w.heap.size + 1 + 1) 1 _ _ (0, 0) b1; have f1 := frozen_of_row _ (w.heap.size + 1 + 1) 1 _ _ b1; have b2 := blk_set b1 1 (.slice A3 n3 c3); have r0 := cell_of_row _ (w.heap.size + 1 + 1) 0 _ _ (0, 0) b2; have r1 := cell_of_row _ (w.heap.size + 1 + 1) 1 _ _ (0, 0) b2; simp only [sA, sZ, sS] at c0 c1 r0 r1; clear b1 b2
     clear hb3; go_wp2; refine bodyPost_ret (v := .agg #[.bool q3, .slice A3 n3 c3]) (by simp [results, Tryz.f29, go_sem, r0, r1]) rfl (HR.out _ _ ?_ ?_)
     ·exact grow_set2 (by omega) (GA.out.tr G5.out) _ _
     ·refine ⟨by rw [HN3.out]; exact KB.out, _, by rw [HQ.out], ?_⟩
      rw [HN3.out]; exact ((HM3.out.set (fun b hb => (SZ3.out b hb.1).2) _).set (fun b hb => (SZ3.out b hb.1).2) _).into fun b hb => (SZ3.out b hb.1).1
    | true =>
     have z0 := cell_of_row _ w.heap.size 0 _ _ (0, 0) (K0.out _ (hg.out)); have z1 := cell_of_row _ w.heap.size 1 _ _ (0, 0) (K0.out _ (hg.out)); have y0 := cell_of_row _ (w.heap.size + 1) 0 _ _ (0, 0) (K1.out _ (hg.out)); have y1 := cell_of_row _ (w.heap.size + 1) 1 _ _ (0, 0) (K1.out _ (hg.out)); go_wp2_with fail
     go_at_call 42; refine made_any _ ms _ _ wr (by rw [hml.out]; exact Rd.own_from HO.out) hmw.out (by rw [hml.out]; exact HML.out) ?_; intro r w5 hg5 hr; rw [HV.out, (show sg true (x.natAbs * y.natAbs) = x * y from SG.out)] at hr; have hb3 := K2.out w5 (hg.out.tr hg5); have G5 := Lh (hg.out.tr hg5); clear hg5; obtain ⟨hk3, m3, rfl, hm3⟩ := hr; obtain ⟨A3, c3, rfl, g31, g32⟩ := rd_slice hm3; have HM3 := Lh hm3; generalize hn3 : (wds ((x * y)).natAbs).length = n3 at *; have HN3 := Lh hn3; have HK3 := Lh hk3; clear hm3 hk3 hn3; generalize hq : decide ((x * y) < 0) = q3 at *
     have HQ := Lh hq; clear hq; have c0 := cell_of_row _ (w.heap.size + 1 + 1) 0 _ _ (0, 0) hb3; have f0 := frozen_of_row _ (w.heap.size + 1 + 1) 0 _ _ hb3; have b1 := blk_set hb3 0 (.bool q3); have c1 := cell_of_row _ (w.heap.size + 1 + 1) 1 _ _ (0, 0) b1; have f1 := frozen_of_row _ (w.heap.size + 1 + 1) 1 _ _ b1; have b2 := blk_set b1 1 (.slice A3 n3 c3); have r0 := cell_of_row _ (w.heap.size + 1 + 1) 0 _ _ (0, 0) b2; have r1 := cell_of_row _ (w.heap.size + 1 + 1) 1 _ _ (0, 0) b2; simp only [sA, sZ, sS] at c0 c1 r0 r1; clear b1 b2
     clear hb3; go_wp2; refine bodyPost_ret (v := .agg #[.bool q3, .slice A3 n3 c3]) (by simp [results, Tryz.f29, go_sem, r0, r1]) rfl (HR.out _ _ ?_ ?_)
     ·exact grow_set2 (by omega) (GA.out.tr G5.out) _ _
     ·refine ⟨by rw [HN3.out]; exact KB.out, _, by rw [HQ.out], ?_⟩
      rw [HN3.out]; exact ((HM3.out.set (fun b hb => (SZ3.out b hb.1).2) _).set (fun b hb => (SZ3.out b hb.1).2) _).into fun b hb => (SZ3.out b hb.1).1
   | true =>
    cases q with
    | false =>
     have z0 := cell_of_row _ w.heap.size 0 _ _ (0, 0) (K0.out _ (hg.out)); have z1 := cell_of_row _ w.heap.size 1 _ _ (0, 0) (K0.out _ (hg.out)); have y0 := cell_of_row _ (w.heap.size + 1) 0 _ _ (0, 0) (K1.out _ (hg.out)); have y1 := cell_of_row _ (w.heap.size + 1) 1 _ _ (0, 0) (K1.out _ (hg.out)); go_wp2_with fail
     go_at_call 42; refine made_any _ ms _ _ wr (by rw [hml.out]; exact Rd.own_from HO.out) hmw.out (by rw [hml.out]; exact HML.out) ?_; intro r w5 hg5 hr; rw [HV.out, (show sg true (x.natAbs * y.natAbs) = x * y from SG.out)] at hr; have hb3 := K2.out w5 (hg.out.tr hg5); have G5 := Lh (hg.out.tr hg5); clear hg5; obtain ⟨hk3, m3, rfl, hm3⟩ := hr; obtain ⟨A3, c3, rfl, g31, g32⟩ := rd_slice hm3; have HM3 := Lh hm3; generalize hn3 : (wds ((x * y)).natAbs).length = n3 at *; have HN3 := Lh hn3; have HK3 := Lh hk3; clear hm3 hk3 hn3; generalize hq : decide ((x * y) < 0) = q3 at *
     have HQ := Lh hq; clear hq; have c0 := cell_of_row _ (w.heap.size + 1 + 1) 0 _ _ (0, 0) hb3; have f0 := frozen_of_row _ (w.heap.size + 1 + 1) 0 _ _ hb3; have b1 := blk_set hb3 0 (.bool q3); have c1 := cell_of_row _ (w.heap.size + 1 + 1) 1 _ _ (0, 0) b1; have f1 := frozen_of_row _ (w.heap.size + 1 + 1) 1 _ _ b1; have b2 := blk_set b1 1 (.slice A3 n3 c3); have r0 := cell_of_row _ (w.heap.size + 1 + 1) 0 _ _ (0, 0) b2; have r1 := cell_of_row _ (w.heap.size + 1 + 1) 1 _ _ (0, 0) b2; simp only [sA, sZ, sS] at c0 c1 r0 r1; clear b1 b2
     clear hb3; go_wp2; refine bodyPost_ret (v := .agg #[.bool q3, .slice A3 n3 c3]) (by simp [results, Tryz.f29, go_sem, r0, r1]) rfl (HR.out _ _ ?_ ?_)
     ·exact grow_set2 (by omega) (GA.out.tr G5.out) _ _
     ·refine ⟨by rw [HN3.out]; exact KB.out, _, by rw [HQ.out], ?_⟩
      rw [HN3.out]; exact ((HM3.out.set (fun b hb => (SZ3.out b hb.1).2) _).set (fun b hb => (SZ3.out b hb.1).2) _).into fun b hb => (SZ3.out b hb.1).1
    | true =>
     have z0 := cell_of_row _ w.heap.size 0 _ _ (0, 0) (K0.out _ (hg.out)); have z1 := cell_of_row _ w.heap.size 1 _ _ (0, 0) (K0.out _ (hg.out)); have y0 := cell_of_row _ (w.heap.size + 1) 0 _ _ (0, 0) (K1.out _ (hg.out)); have y1 := cell_of_row _ (w.heap.size + 1) 1 _ _ (0, 0) (K1.out _ (hg.out)); go_wp2_with fail
     go_at_call 42; refine made_any _ ms _ _ wr (by rw [hml.out]; exact Rd.own_from HO.out) hmw.out (by rw [hml.out]; exact HML.out) ?_; intro r w5 hg5 hr; rw [HV.out, (show sg false (x.natAbs * y.natAbs) = x * y from SG.out)] at hr; have hb3 := K2.out w5 (hg.out.tr hg5); have G5 := Lh (hg.out.tr hg5); clear hg5; obtain ⟨hk3, m3, rfl, hm3⟩ := hr; obtain ⟨A3, c3, rfl, g31, g32⟩ := rd_slice hm3; have HM3 := Lh hm3; generalize hn3 : (wds ((x * y)).natAbs).length = n3 at *; have HN3 := Lh hn3; have HK3 := Lh hk3; clear hm3 hk3 hn3; generalize hq : decide ((x * y) < 0) = q3 at *
     have HQ := Lh hq; clear hq; have c0 := cell_of_row _ (w.heap.size + 1 + 1) 0 _ _ (0, 0) hb3; have f0 := frozen_of_row _ (w.heap.size + 1 + 1) 0 _ _ hb3; have b1 := blk_set hb3 0 (.bool q3); have c1 := cell_of_row _ (w.heap.size + 1 + 1) 1 _ _ (0, 0) b1; have f1 := frozen_of_row _ (w.heap.size + 1 + 1) 1 _ _ b1; have b2 := blk_set b1 1 (.slice A3 n3 c3); have r0 := cell_of_row _ (w.heap.size + 1 + 1) 0 _ _ (0, 0) b2; have r1 := cell_of_row _ (w.heap.size + 1 + 1) 1 _ _ (0, 0) b2; simp only [sA, sZ, sS] at c0 c1 r0 r1; clear b1 b2
     clear hb3; go_wp2; refine bodyPost_ret (v := .agg #[.bool q3, .slice A3 n3 c3]) (by simp [results, Tryz.f29, go_sem, r0, r1]) rfl (HR.out _ _ ?_ ?_)
     ·exact grow_set2 (by omega) (GA.out.tr G5.out) _ _
     ·refine ⟨by rw [HN3.out]; exact KB.out, _, by rw [HQ.out], ?_⟩
      rw [HN3.out]; exact ((HM3.out.set (fun b hb => (SZ3.out b hb.1).2) _).set (fun b hb => (SZ3.out b hb.1).2) _).into fun b hb => (SZ3.out b hb.1).1
end Go.Proofs.YteeeeddeacepmaaGreatDoor
