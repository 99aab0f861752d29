/-
  Whole numbers of words: what holds one; Word, cut, made, Neg, Sign.
-/
import Derived.Test.YtjcgkhcbdbbdkaaChecked
import Derived.Test.YtjcgkhcbdbbdkaaBase
import Derived.Test.YtjcgkhcbdbbdkaaBox
import Derived.Test.YtjcgkhcbdbbdkaaBigP
namespace Go.Proofs.Ytjcgkhcbdbbdkaa
open Go.RowKit Go.Lib

def W64 (l : List Nat) : List Value := l.map fun (n : Nat) => .int .u64 n
theorem W64_len (l : List Nat) : (W64 l).length = l.length := by simp [W64]
theorem W64_at (l : List Nat) (k : Nat) (h : k < l.length) : (W64 l)[k]? = some (.int .u64 (l[k] : Nat)) := by simp [W64, h]
theorem W64_app (l m : List Nat) : W64 (l ++ m) = W64 l ++ W64 m := by simp [W64]
theorem W64_take (l : List Nat) (k : Nat) : W64 (l.take k) = (W64 l).take k := by simp [W64]
theorem W64_set (l : List Nat) (k n : Nat) : W64 (l.set k n) = (W64 l).set k (.int .u64 n) := by simp [W64, List.map_set]
theorem el_w64 : Elem Try.prog 31 24 (.int .u64 0) 1 8 := ⟨by kernel_rfl, by kernel_rfl, rfl, by decide, by decide⟩

/-- v holds the whole number z, in no more than k words, which lie in blocks of S -/
def BigR (w : World) (S : Nat → Prop) (v : Value) (z : Int) (k : Nat) : Prop :=
  (wds z.natAbs).length ≤ k ∧ ∃ m, v = .agg #[.bool (decide (z < 0)), m] ∧ Rd w S 1 m (wds z.natAbs).length (W64 (wds z.natAbs))
theorem Rd.set {w : World} {S : Nat → Prop} {size n : Nat} {v : Value} {xs : List Value} (h : Rd w S size v n xs) {B j : Nat} (hB : ∀ b, S b → b ≠ B) (u : Value) : Rd (w.setCell ⟨B, j, none⟩ u) S size v n xs :=
  h.keep fun b hb => by simp [World.setCell, Array.getElem?_modify, (hB b hb).symm]
theorem BigR.gr {w w' : World} {S : Nat → Prop} {v : Value} {z : Int} {k : Nat} (h : BigR w S v z k) (hg : Grow w w') : BigR w' S v z k := by
  obtain ⟨h1, m, h2, h3⟩ := h
  exact ⟨h1, m, h2, h3.gr2 (by decide) hg⟩
theorem BigR.up {w : World} {S : Nat → Prop} {v : Value} {z : Int} {k k' : Nat} (h : BigR w S v z k) (hk : k ≤ k') : BigR w S v z k' := ⟨Nat.le_trans h.1 hk, h.2⟩
theorem BigR.into {w : World} {S T : Nat → Prop} {v : Value} {z : Int} {k : Nat} (h : BigR w S v z k) (hk : ∀ b, S b → T b) : BigR w T v z k := by
  obtain ⟨h1, m, h2, h3⟩ := h
  exact ⟨h1, m, h2, h3.into hk⟩
theorem BigR.lt {w : World} {S : Nat → Prop} {v : Value} {z : Int} {k : Nat} (h : BigR w S v z k) : BigR w (· < w.heap.size) v z k := by
  obtain ⟨h1, m, h2, h3⟩ := h
  exact ⟨h1, m, h2, h3.lt (by decide)⟩
theorem BigR.set {w : World} {S : Nat → Prop} {v : Value} {z : Int} {k : Nat} (h : BigR w S v z k) {B j : Nat} (hB : ∀ b, S b → b ≠ B) (u : Value) : BigR (w.setCell ⟨B, j, none⟩ u) S v z k := by
  obtain ⟨h1, m, h2, h3⟩ := h
  exact ⟨h1, m, h2, h3.set hB u⟩

theorem blk_set {W : World} {B : Nat} {cs : Array Value} {t : TypeId} (h : W.heap[B]? = some (.cells cs t (0, 0))) (j : Nat) (v : Value) : (W.setCell ⟨B, j, none⟩ v).heap[B]? = some (.cells (cs.setIfInBounds j v) t (0, 0)) := by
  simp [World.setCell, Array.getElem?_modify, h]
theorem grow_blk {W W' : World} (hg : Grow W W') {B : Nat} {o : Obj} (h : W.heap[B]? = some o) : W'.heap[B]? = some o := (hg.block B (lt_of_block h)).trans h
theorem blk_al (w : World) (cs : Array Value) (t : TypeId) {w' : World} (hg : Grow (w.alloc (.cells cs t)) w') : w'.heap[w.heap.size]? = some (.cells cs t (0, 0)) := grow_blk hg (heap_alloc_new _ _)
theorem grow_set2 {w W : World} {B : Nat} (hB : w.heap.size ≤ B) (hg : Grow w W) (u0 u1 : Value) : Grow w ((W.setCell ⟨B, 0, none⟩ u0).setCell ⟨B, 1, none⟩ u1) :=
  (hg.set (p := ⟨B, 0, none⟩) hB u0).set (p := ⟨B, 1, none⟩) hB u1


set_option maxRecDepth 100000 in
set_option maxHeartbeats 1000000 in
theorem word_any (n : Nat) (w : World) (hn : n < 18446744073709551616) {R : Ending → World → Prop}
    (hR : ∀ v w', Grow w w' → BigR w' (fun b => w.heap.size ≤ b) v n 4 → R (.returned v) w') :
    Calls Try.prog 59 #[.int .u64 n] w R := by
  have HR := Lib.hid hR
  clear hR
  have HL := Lib.hid (wds_len_le 4 n (by simpa using hn))
  go_enter Try.func59, Try.ntmps59
  go_wp2
  go_loopw [0, 3] (fun s0 s3 wr => ∃ (n' : Nat) (done : List Nat), s0 = .int .u64 n' ∧ n' < 18446744073709551616 ∧ Hid (wds n = done ++ wds n') ∧ done.length ≤ 4 ∧ wr.ownsRow (w.heap.size + 1) 24 1 s3 done.length (W64 done) ∧ Hid (Grow (w.alloc (.cells #[.bool false, .slice none 0 0] 33)) wr)) (fun s0 _ _ => (intOf s0).toNat)
  case atStart => exact ⟨n, [], rfl, hn, rfl, by simp, World.ownsRow_nil _ _ _ _, Grow.refl _⟩
  case round =>
    obtain ⟨n', done, rfl, hn', hd, hl, hown, hg⟩ := hrel
    obtain ⟨A, c, rfl⟩ := own_slice hown
    by_cases h0 : n' = 0
    · subst h0
      have hb := blk_al w _ _ hg.out
      have c0 := cell_of_row _ w.heap.size 0 _ _ (0, 0) hb
      have f0 := frozen_of_row _ w.heap.size 0 _ _ hb
      have b1 := blk_set hb 0 (.bool false)
      have c1 := cell_of_row _ w.heap.size 1 _ _ (0, 0) b1
      have f1 := frozen_of_row _ w.heap.size 1 _ _ b1
      have b2 := blk_set b1 1 (.slice A done.length c)
      have r0 := cell_of_row _ w.heap.size 0 _ _ (0, 0) b2
      have r1 := cell_of_row _ w.heap.size 1 _ _ (0, 0) b2
      simp only [List.setIfInBounds_toArray, List.set_cons_zero, List.set_cons_succ] at c0 c1 r0 r1
      clear b1 b2
      have HO := Lib.hid hown
      clear hown hb
      go_wp2
      refine bodyPost_ret (v := .agg #[.bool false, .slice A done.length c]) (by simp [results, Try.f59, go_sem, r0, r1]) rfl (HR.out _ _ ?_ ?_)
      · exact grow_set2 (Nat.le_refl _) (((Grow.refl w).al _).tr hg.out) _ _
      · have e := hd.out
        rw [wds_zero, List.append_nil] at e
        have hs := ((Rd.own_from HO.out).set (B := w.heap.size) (j := 0) (fun b hb => by omega) (.bool false)).set (B := w.heap.size) (j := 1) (fun b hb => by omega) (.slice A done.length c)
        refine ⟨by simpa using HL.out, .slice A done.length c, by simp, ?_⟩
        rw [Int.natAbs_natCast, e]
        exact hs.into fun b hb => by omega
    · have h64 : Hid (done.length + 1 ≤ 4) := by
        have := HL.out
        rw [hd.out, wds_pos h0] at this
        simp at this
        show _ ≤ _
        omega
      have HD := Lib.hid (wds_pos h0)
      have hgs : w.heap.size + 1 ≤ wr.heap.size := by have := hg.out.size; rw [World.size_alloc] at this; exact this
      go_wp2_with (at_builtin; refine wpList_new (w0 := w.alloc (.cells #[.bool false, .slice none 0 0] 33)) rfl _ _ rfl el_w64 hown rfl 1 _ rfl (by decide) rfl (by simp [Value.oneCell']) (by omega) hg.out ⟨by rw [World.size_alloc]; omega, hgs⟩ ?_; intro v1 w1 hown1 hg1 hgr1 hb1; have HG1 := Lib.hid hg1; clear hg1 hgr1 hb1)
      go_roundw
      case rel =>
        refine ⟨n' / 65536, done ++ [n' % 65536], by go_num, by omega, ?_, by have := h64.out; simpa using this, own_eq hown1 (by simp) ?_, HG1⟩
        · show _ = _
          rw [hd.out, HD.out]; simp
        · rw [W64_app]; rfl
      case measure => simp [intOf]; omega

set_option maxRecDepth 100000 in
set_option maxHeartbeats 1000000 in
theorem cut_any (l : List Nat) (v : Value) (S : Nat → Prop) (w : World) (hb : Rd w S 1 v l.length (W64 l)) (hw : Wd l) (hl : l.length ≤ 100000) {R : Ending → World → Prop}
    (hR : ∀ r, Rd w S 1 r (wds (vw l)).length (W64 (wds (vw l))) → R (.returned r) w) :
    Calls Try.prog 102 #[v] w R := by
  have HR := Lib.hid hR
  clear hR
  have HB := Lib.hid hb
  obtain ⟨_, A, c, rfl, h1, h2, h3, h4⟩ := hb
  unfold maxLen at h2
  have HW := Lib.hid hw
  clear hw
  go_enter Try.func102, Try.ntmps102
  go_wp2
  go_loopw [3] (fun s3 wr => ∃ k : Nat, k ≤ l.length ∧ s3 = .int .i64 k ∧ Hid (∀ x ∈ l.drop k, x = 0) ∧ wr = w) (fun s3 _ => (intOf s3).toNat)
  case atStart => exact ⟨l.length, Nat.le_refl _, rfl, by show ∀ x ∈ _, _; simp, rfl⟩
  case round =>
    obtain ⟨k, hk, rfl, hz, rfl⟩ := hrel
    have fin : Hid ((k = 0 ∨ ∃ h : k - 1 < l.length, l[k - 1] ≠ 0) → R (.returned (.slice A k c)) wr) := by
      intro h
      have e := wds_take HW.out hk hz.out h
      refine HR.out _ ?_
      rw [← e, W64_take]
      obtain ⟨g1, A', c', g2, g3, g4, g5, g6⟩ := HB.out
      injection g2 with e1 _ e2
      subst e1 e2
      have hlen : (l.take k).length = k := by simp [Nat.min_eq_left hk]
      rw [hlen]
      refine ⟨by simp [W64_len, Nat.min_eq_left hk], _, _, rfl, by omega, g4, g5, fun hn => ?_⟩
      obtain ⟨b, o, e1, e2, e3⟩ := g6 (by omega)
      refine ⟨b, o, e1, e2, fun j x hx => e3 j x ?_⟩
      rw [List.getElem?_take] at hx
      split at hx
      · exact hx
      · simp at hx
    rcases Nat.eq_zero_or_pos k with h0 | h0
    · subst h0
      have h := fin.out (Or.inl rfl)
      clear fin h4 h3
      go_wp2
      exact h
    · obtain ⟨j, rfl⟩ : ∃ j, k = j + 1 := ⟨k - 1, by omega⟩
      have hlt : j < l.length := by omega
      obtain ⟨b, o, rfl, _, hc⟩ := h4 (by omega)
      have c1 := hc j _ (W64_at l j hlt)
      have hsub : (((j + 1 : Nat) : Int) - 1) = (j : Int) := by omega
      have HZ : Hid (l[j]'hlt = 0 → ∀ x ∈ l.drop j, x = 0) := by
        intro h x hx
        rw [List.drop_eq_getElem_cons hlt] at hx
        rcases List.mem_cons.1 hx with rfl | hx
        · exact h
        · exact hz.out x hx
      have HF : Hid (l[j]'hlt ≠ 0 → R (.returned (.slice (some ⟨b, o, none⟩) (j + 1) c)) wr) := fun h => fin.out (Or.inr ⟨by simpa using hlt, by simpa using h⟩)
      clear hc h4 h3 fin hz
      generalize l[j]'hlt = x at *
      by_cases hx : x = 0
      · subst hx
        have HZ := Lib.hid (HZ.out rfl)
        clear HF
        go_wp2
        go_roundw
        case rel => exact ⟨j, by omega, by go_num, HZ.out, by first | rfl | trivial⟩
        case measure => simp [intOf] <;> omega
      · have t1 : ((x : Int) == 0) = false := by rw [beq_eq_false_iff_ne]; omega
        have HF := Lib.hid (HF.out hx)
        clear HZ hx
        go_wp2
        exact HF.out

theorem Rd.both {w : World} {S : Nat → Prop} {size n : Nat} {v : Value} {xs : List Value} (h : Rd w S size v n xs) (h0 : 0 < size) : Rd w (fun b => S b ∧ b < w.heap.size) size v n xs := by
  have hl := h.lt h0
  obtain ⟨hl0, A, c, hv, h1, h2, h3, h4⟩ := h
  refine ⟨hl0, A, c, hv, h1, h2, h3, fun hn => ?_⟩
  obtain ⟨b, o, hA, hSb, hc⟩ := h4 hn
  have hx : 0 < xs.length := by rw [hl0]; exact Nat.mul_pos hn h0
  exact ⟨b, o, hA, ⟨hSb, World.block_lt_of_cell? w _ (hc 0 xs[0] (List.getElem?_eq_getElem hx))⟩, hc⟩

theorem wds_len_pos (n : Nat) : 0 < (wds n).length ↔ n ≠ 0 := by
  by_cases h : n = 0
  · subst h; rw [wds_zero]; simp
  · rw [wds_pos h]; simp [h]
theorem rd_slice {w : World} {S : Nat → Prop} {size n : Nat} {v : Value} {xs : List Value} (h : Rd w S size v n xs) : ∃ A c, v = .slice A n c ∧ n ≤ c ∧ c ≤ 9223372036854775807 := by
  obtain ⟨_, A, c, h, h1, h2, _⟩ := h
  exact ⟨A, c, h, h1, h2⟩
/-- with its sign -/
def sg (neg : Bool) (n : Nat) : Int := if neg then -(n : Int) else n
theorem sg_abs (neg : Bool) (n : Nat) : (sg neg n).natAbs = n := by cases neg <;> simp [sg]
theorem sg_neg (neg : Bool) (n : Nat) : decide (sg neg n < 0) = (neg && decide ((0 : Int) < ((wds n).length : Nat))) := by
  have h := wds_len_pos n
  cases neg
  · simp [sg]
  · simp only [sg, if_true, Bool.true_and, decide_eq_decide]
    omega
theorem rd_alloc2 {w : World} {S : Nat → Prop} {o o' : Obj} {size n : Nat} {v : Value} {xs : List Value} (h : Rd (w.alloc o) (fun b => S b ∧ b < w.heap.size) size v n xs) : Rd (w.alloc o') (fun b => S b ∧ b < w.heap.size) size v n xs :=
  h.keep fun b hb => (((Grow.refl w).al o').block b hb.2).trans (((Grow.refl w).al o).block b hb.2).symm

set_option maxRecDepth 100000 in
set_option maxHeartbeats 1000000 in
theorem made_any (neg : Bool) (l : List Nat) (v : Value) (S : Nat → Prop) (w : World) (hb : Rd w S 1 v l.length (W64 l)) (hw : Wd l) (hl : l.length ≤ 100000) {R : Ending → World → Prop}
    (hR : ∀ r w', Grow w w' → BigR w' (fun b => S b ∧ b < w.heap.size) r (sg neg (vw l)) (wds (vw l)).length → R (.returned r) w') :
    Calls Try.prog 89 #[.bool neg, v] w R := by
  have HR := Lib.hid hR
  have HB := Lib.hid (hb.both (by decide))
  have HW := Lib.hid hw
  clear hR hb hw
  have hal : Hid (Grow w (w.alloc (.cells #[.bool false, .slice none 0 0] 33))) := (Grow.refl w).al _
  have C := Lib.hid fun (R : Ending → World → Prop) hR => cut_any l v _ _ (HB.out.gr2 (by decide) hal.out) HW.out hl (R := R) hR
  have hgn := sg_neg neg (vw l)
  generalize hG : (wds (vw l)).length = n at *
  obtain ⟨Z, hZ⟩ : ∃ Z, Z = W64 (wds (vw l)) := ⟨_, rfl⟩
  have HG := Lib.hid hG
  have HGN := Lib.hid hgn
  clear hG hgn
  rw [← hZ] at C
  have HZ := Lib.hid hZ
  clear hZ
  cases neg with
  | false =>
    go_enter Try.func89, Try.ntmps89
    go_wp2_with fail
    go_at_call 102
    refine C.out _ ?_
    intro r hr
    obtain ⟨A, c, rfl, h1, h2⟩ := rd_slice hr
    have HC := Lib.hid hr
    clear hr
    go_wp2
    refine bodyPost_ret (v := .agg #[.bool false, .slice A n c]) (by simp [results, Try.f89, go_sem]) rfl (HR.out _ _ ?_ ?_)
    · exact (Grow.refl w).al _
    · refine ⟨by rw [sg_abs, HG.out]; exact Nat.le_refl _, .slice A n c, by rw [HGN.out]; rfl, ?_⟩
      rw [sg_abs, ← HZ.out, HG.out]
      exact rd_alloc2 HC.out
  | true =>
    go_enter Try.func89, Try.ntmps89
    go_wp2_with fail
    go_at_call 102
    refine C.out _ ?_
    intro r hr
    obtain ⟨A, c, rfl, h1, h2⟩ := rd_slice hr
    have HC := Lib.hid hr
    clear hr
    go_wp2
    refine bodyPost_ret (v := .agg #[.bool (decide ((0 : Int) < (n : Nat))), .slice A n c]) (by simp [results, Try.f89, go_sem]) rfl (HR.out _ _ ?_ ?_)
    · exact (Grow.refl w).al _
    · refine ⟨by rw [sg_abs, HG.out]; exact Nat.le_refl _, .slice A n c, by rw [HGN.out]; rfl, ?_⟩
      rw [sg_abs, ← HZ.out, HG.out]
      exact rd_alloc2 HC.out

set_option maxRecDepth 100000 in
set_option maxHeartbeats 1000000 in
theorem neg_any (z : Int) (k : Nat) (v : Value) (S : Nat → Prop) (w : World) (hb : BigR w S v z k) (hk : k ≤ 100000) {R : Ending → World → Prop}
    (hR : ∀ r w', Grow w w' → BigR w' (fun b => S b ∧ b < w.heap.size) r (-z) k → R (.returned r) w') :
    Calls Try.prog 93 #[v] w R := by
  have HR := Lib.hid hR
  clear hR
  obtain ⟨hk1, m, rfl, hm⟩ := hb
  have hm := hm.both (by decide)
  have e1 : sg (!decide (z < 0)) (vw (wds z.natAbs)) = -z := by
    rw [vw_wds]
    by_cases h : z < 0 <;> simp [sg, h] <;> omega
  have C := fun W (h : Grow w W) (R : Ending → World → Prop) hR => made_any (!decide (z < 0)) (wds z.natAbs) m _ W (hm.gr2 (by decide) h) (wd_wds _) (by omega) (R := R) hR
  rw [e1, vw_wds] at C
  have C := Lib.hid C
  have HK := Lib.hid hk1
  clear e1 hk1 hm
  generalize decide (z < 0) = p at *
  generalize (wds z.natAbs).length = n at *
  go_enter Try.func93, Try.ntmps93
  go_wp2_with fail
  go_at_call 89
  refine C.out _ (((Grow.refl w).al _).al _) _ ?_
  intro r w3 hg3 hr
  obtain ⟨hk3, m3, rfl, hm3⟩ := hr
  obtain ⟨A3, c3, rfl, g31, g32⟩ := rd_slice hm3
  have HM3 := Lib.hid hm3
  generalize hn3 : (wds (-z).natAbs).length = n3 at *
  have HN3 := Lib.hid hn3
  have HK3 := Lib.hid hk3
  clear hm3 hk3 hn3
  generalize hq : decide (-z < 0) = q at *
  have HQ := Lib.hid hq
  clear hq
  have hb3 := blk_al _ _ _ hg3
  simp only [World.size_alloc] at hb3
  have c0 := cell_of_row _ (w.heap.size + 1) 0 _ _ (0, 0) hb3
  have f0 := frozen_of_row _ (w.heap.size + 1) 0 _ _ hb3
  have b1 := blk_set hb3 0 (.bool q)
  have c1 := cell_of_row _ (w.heap.size + 1) 1 _ _ (0, 0) b1
  have f1 := frozen_of_row _ (w.heap.size + 1) 1 _ _ b1
  have b2 := blk_set b1 1 (.slice A3 n3 c3)
  have r0 := cell_of_row _ (w.heap.size + 1) 0 _ _ (0, 0) b2
  have r1 := cell_of_row _ (w.heap.size + 1) 1 _ _ (0, 0) b2
  simp only [List.setIfInBounds_toArray, List.set_cons_zero, List.set_cons_succ] at c0 c1 r0 r1
  clear b1 b2
  have G3 := Lib.hid hg3
  clear hg3 hb3
  go_wp2
  refine bodyPost_ret (v := .agg #[.bool q, .slice A3 n3 c3]) (by simp [results, Try.f93, go_sem, r0, r1]) rfl (HR.out _ _ ?_ ?_)
  · exact grow_set2 (Nat.le_succ _) ((((Grow.refl w).al _).al _).tr G3.out) _ _
  · refine ⟨by rw [HN3.out]; exact Nat.le_trans HK3.out HK.out, _, by rw [HQ.out], ?_⟩
    rw [HN3.out]
    exact ((HM3.out.set (fun b hb => by have := hb.1.2; omega) _).set (fun b hb => by have := hb.1.2; omega) _).into fun b hb => hb.1

set_option maxRecDepth 100000 in
set_option maxHeartbeats 1000000 in
theorem sign_any (z : Int) (k : Nat) (v : Value) (S : Nat → Prop) (w : World) (hb : BigR w S v z k) (hk : k ≤ 100000) {R : Ending → World → Prop}
    (hR : ∀ w', Grow w w' → R (.returned (.int .i64 z.sign)) w') :
    Calls Try.prog 95 #[v] w R := by
  have HR := Lib.hid hR
  clear hR
  obtain ⟨hk1, m, rfl, hm⟩ := hb
  obtain ⟨A, c, rfl, h1, h2⟩ := rd_slice hm
  have hp := wds_len_pos z.natAbs
  have hz : z < 0 ∨ z = 0 ∨ 0 < z := by omega
  rcases hz with hz | hz | hz
  · have t1 : (((wds z.natAbs).length : Int) == 0) = false := by rw [beq_eq_false_iff_ne]; omega
    rw [Int.sign_eq_neg_one_of_neg hz] at HR
    simp only [hz, decide_true]
    generalize (wds z.natAbs).length = n at *
    clear hp hz hm hk1
    go_enter Try.func95, Try.ntmps95
    go_wp2
    exact HR.out _ ((Grow.refl w).al _)
  · subst hz
    rw [Int.sign_zero] at HR
    simp only [Int.natAbs_zero, wds_zero, List.length_nil]
    clear hp hm hk1
    go_enter Try.func95, Try.ntmps95
    go_wp2
    exact HR.out _ ((Grow.refl w).al _)
  · have t1 : (((wds z.natAbs).length : Int) == 0) = false := by rw [beq_eq_false_iff_ne]; omega
    have t2 : decide (z < 0) = false := by simp; omega
    rw [Int.sign_eq_one_of_pos hz] at HR
    rw [t2]
    generalize (wds z.natAbs).length = n at *
    clear hp hz hm hk1 t2
    go_enter Try.func95, Try.ntmps95
    go_wp2
    exact HR.out _ ((Grow.refl w).al _)
end Go.Proofs.Ytjcgkhcbdbbdkaa
