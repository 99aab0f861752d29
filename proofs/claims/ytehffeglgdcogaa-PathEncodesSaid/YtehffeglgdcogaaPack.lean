import Derived.Test.YtehffeglgdcogaaChecked
import Derived.Test.YtehffeglgdcogaaBase
import Derived.Test.YtehffeglgdcogaaWire1
import Derived.Test.YtehffeglgdcogaaWire2
import Derived.Test.YtehffeglgdcogaaPackP
namespace Go.Proofs.Ytehffeglgdcogaa
open Go.RowKit

theorem el_u32 : Elem Try.prog 43 78 (.int .u32 0) 1 4 := ⟨by kernel_rfl, by kernel_rfl, rfl, by decide, by decide⟩
def U32 (l : List Int) : List Value := l.map (.int .u32)
theorem U32_len (l : List Int) : (U32 l).length = l.length := by simp [U32]
theorem U32_at (l : List Int) (k : Nat) (h : k < l.length) : (U32 l)[k]? = some (.int .u32 l[k]) := by simp [U32, h]
theorem U32_app (l m : List Int) : U32 (l ++ m) = U32 l ++ U32 m := by simp [U32]

theorem take_succ_eq {α : Type} {la lb : List α} {k : Nat} (ha : k < la.length) (hb : k < lb.length) (h : la.take k = lb.take k) (hx : la[k] = lb[k]) : la.take (k + 1) = lb.take (k + 1) := by
  rw [List.take_succ_eq_append_getElem ha, List.take_succ_eq_append_getElem hb, h, hx]

set_option maxRecDepth 100000 in
set_option maxHeartbeats 1000000 in
theorem sameInts_any (a b : Value) (la lb : List Int) (S T : Nat → Prop) (w : World) (ha : Rd w S 1 a la.length (U32 la)) (hb : Rd w T 1 b lb.length (U32 lb)) {R : Ending → World → Prop}
    (hR : ∀ w', Grow w w' → R (.returned (.bool (decide (la = lb)))) w') :
    Calls Try.prog 34 #[a, b] w R := by
  obtain ⟨_, A, c, rfl, h1, h2, h3, h4⟩ := ha
  obtain ⟨_, B, d, rfl, k1, k2, k3, k4⟩ := hb
  unfold maxLen at h2 k2
  have HR := Lib.hid hR
  clear hR
  by_cases hl : la.length = lb.length
  · have heq : ((la.length : Int) != lb.length) = false := by simp; omega
    have hl := Lib.hid hl
    go_enter Try.func34, Try.ntmps34
    go_wp2
    go_loopw [5] (fun i wr => ∃ k : Nat, k ≤ la.length ∧ i = .int .i64 k ∧ Hid (la.take k = lb.take k) ∧ ∃ n, wr = w.drewN n) (fun i _ => la.length - (intOf i).toNat)
    case atStart => exact ⟨0, Nat.zero_le _, rfl, rfl, 0, rfl⟩
    case round =>
      obtain ⟨k, hk, rfl, ht, n, rfl⟩ := hrel
      by_cases hlt : k < la.length
      · have hlt2 : k < lb.length := by rw [← hl.out]; exact hlt
        obtain ⟨b1, o1, rfl, _, hc1⟩ := h4 (by omega)
        obtain ⟨b2, o2, rfl, _, hc2⟩ := k4 (by omega)
        have c1 := hc1 k (.int .u32 la[k]) (U32_at la k hlt)
        have c2 := hc2 k (.int .u32 lb[k]) (U32_at lb k hlt2)
        clear hc1 hc2 h4 k4 h3 k3
        generalize hx : la[k] = x at *
        generalize hy : lb[k] = y at *
        have Hx := Lib.hid hx
        have Hy := Lib.hid hy
        clear hx hy
        go_wp2
        go_quiet (fail)
        go_wp2
        · have hne : (x != y) = true := by assumption
          have hxy : la ≠ lb := by
            rintro rfl
            have : x = y := by rw [← Hx.out, ← Hy.out]
            simp [this] at hne
          have h := HR.out
          rw [decide_eq_false hxy] at h
          exact h _ (((Grow.refl w).dn _).tr ((Grow.refl _).dn _))
        · have hne : (x != y) = false := by assumption
          go_roundw
          case rel => exact ⟨k + 1, by omega, by go_num, take_succ_eq hlt hlt2 ht.out (by rw [Hx.out, Hy.out]; simpa using hne), _, rfl⟩
          case measure => simp [intOf]; omega
      · have : k = la.length := by omega
        subst this
        go_wp2
        have hxy : la = lb := by
          have := ht.out
          rw [List.take_length, hl.out, List.take_length] at this
          exact this
        have h := HR.out
        rw [decide_eq_true hxy] at h
        exact h _ ((Grow.refl w).dn _)
  · have heq : ((la.length : Int) != lb.length) = true := by simp; omega
    go_enter Try.func34, Try.ntmps34
    go_wp2
    have hxy : ¬ la = lb := by rintro rfl; exact hl rfl
    have h := HR.out
    rw [decide_eq_false hxy] at h
    exact h _ (Grow.refl _)

set_option maxRecDepth 100000 in
set_option maxHeartbeats 1000000 in
theorem pack_any (l : List Int) (v : Value) (S : Nat → Prop) (w : World) (hb : Rd w S 1 v l.length (U32 l)) (hl : l.length ≤ 1000) (hv : ∀ n ∈ l, 0 ≤ n ∧ n ≤ 4294967295) {R : Ending → World → Prop}
    (hR : ∀ r w', w'.ownsRow w.heap.size 5 1 r (pack l).length (U8 (pack l)) → Grow w w' → R (.returned r) w') :
    Calls Try.prog 30 #[v] w R := by
  have hb := hb.lt (by decide)
  obtain ⟨_, A, c, rfl, h1, h2, h3, h4⟩ := hb
  unfold maxLen at h2
  have HR := Lib.hid hR
  clear hR
  go_enter Try.func30, Try.ntmps30
  go_wp2
  go_loopw [8, 3] (fun i s wr => ∃ (k m : Nat), k ≤ l.length ∧ i = .int .i64 k ∧ m ≤ k * 10 ∧ wr.ownsRow w.heap.size 5 1 s m (U8 (pack (l.take k))) ∧ Hid (Grow w wr)) (fun i _ _ => l.length - (intOf i).toNat)
  case atStart => exact ⟨0, 0, Nat.zero_le _, rfl, by omega, World.ownsRow_nil _ _ _ _, Grow.refl _⟩
  case round =>
    obtain ⟨k, m, hk, rfl, hm, hown, hg⟩ := hrel
    by_cases hlt : k < l.length
    · obtain ⟨b, o, rfl, hS, hc⟩ := h4 (by omega)
      have c1 : wr.cell? ⟨b, o + k, none⟩ = some (.int .u32 l[k]) := (hg.out.cell (p := ⟨b, o + k, none⟩) hS).trans (hc k _ (U32_at l k hlt))
      have hx := hv l[k] (List.getElem_mem hlt)
      have HT : Hid (l.take (k + 1) = l.take k ++ [l[k]]) := by show _ = _; rw [List.take_succ_eq_append_getElem hlt]
      have HO := Lib.hid hown
      clear hc h4 h3 hv hown
      generalize l[k] = x at *
      obtain ⟨x, rfl⟩ := Int.eq_ofNat_of_zero_le hx.1
      have hx64 : x < 18446744073709551616 := by omega
      obtain ⟨hp1, hp2⟩ := vput_len 9 x
      go_wp2_with fail
      refine putVarint_any [] _ x (fun _ => True) _ Rd.nil (by simp) hx64 ?_
      intro r1 w1 hown1 hg1
      have hown1 := own_eq hown1 (m := (vput 9 x).length) (ys := U8 (vput 9 x)) (by simp) (by simp)
      have HO1 := Lib.hid hown1
      have HG1 := Lib.hid hg1
      clear hg1 hown1
      go_wp2_with (at_builtin; refine wpList_app rfl _ _ rfl el_u8 (own_grow HO.out HG1.out) rfl (Rd.own HO1.out) rfl (U8_one _) (by omega) (hg.out.tr HG1.out).size ?_; intro v2 w2 hown2 hgr2 hb2; have HG2 := Lib.hid (grow_app (hg.out.tr HG1.out) hgr2 (own_ge (own_grow HO.out HG1.out))); clear hgr2 hb2)
      go_roundw
      case rel =>
        refine ⟨k + 1, m + (vput 9 x).length, by omega, by go_num, by omega, own_eq hown2 rfl ?_, HG2⟩
        rw [← U8_app, HT.out]
        simp [pack]
      case measure => simp [intOf]; omega
    · obtain rfl : k = l.length := by omega
      go_wp2
      refine HR.out _ _ (own_eq hown ?_ ?_) hg.out
      · have := hown.1
        rw [U8_len, List.take_length] at this
        omega
      · rw [List.take_length]

set_option maxRecDepth 100000 in
set_option maxHeartbeats 1000000 in
theorem rpack_any (l : List Int) (v : Value) (S : Nat → Prop) (w : World) (hb : Rd w S 1 v l.length (U32 l)) (hl : l.length ≤ 1000) (hv : ∀ n ∈ l, 0 ≤ n ∧ n ≤ 4294967295) {R : Ending → World → Prop}
    (hR : ∀ r w', w'.ownsRow w.heap.size 5 1 r (pack l).length (U8 (pack l)) → Grow w w' → R (.returned r) w') :
    Calls Try.prog 33 #[v] w R := by
  have hb := hb.lt (by decide)
  obtain ⟨_, A, c, rfl, h1, h2, h3, h4⟩ := hb
  unfold maxLen at h2
  have HR := Lib.hid hR
  clear hR
  go_enter Try.func33, Try.ntmps33
  go_wp2
  go_loopw [4, 3] (fun i s wr => ∃ (k m : Nat), k ≤ l.length ∧ i = .int .i64 k ∧ m ≤ k * 10 ∧ wr.ownsRow w.heap.size 5 1 s m (U8 (pack (l.take k))) ∧ Hid (Grow w wr)) (fun i _ _ => l.length - (intOf i).toNat)
  case atStart => exact ⟨0, 0, Nat.zero_le _, rfl, by omega, World.ownsRow_nil _ _ _ _, Grow.refl _⟩
  case round =>
    obtain ⟨k, m, hk, rfl, hm, hown, hg⟩ := hrel
    by_cases hlt : k < l.length
    · obtain ⟨b, o, rfl, hS, hc⟩ := h4 (by omega)
      have c1 : wr.cell? ⟨b, o + k, none⟩ = some (.int .u32 l[k]) := (hg.out.cell (p := ⟨b, o + k, none⟩) hS).trans (hc k _ (U32_at l k hlt))
      have hx := hv l[k] (List.getElem_mem hlt)
      have HT : Hid (l.take (k + 1) = l.take k ++ [l[k]]) := by show _ = _; rw [List.take_succ_eq_append_getElem hlt]
      have HO := Lib.hid hown
      clear hc h4 h3 hv hown
      generalize l[k] = x at *
      obtain ⟨x, rfl⟩ := Int.eq_ofNat_of_zero_le hx.1
      have hx64 : x < 18446744073709551616 := by omega
      obtain ⟨hp1, hp2⟩ := vput_len 9 x
      go_wp2_with fail
      refine rbytes_any x _ hx64 ?_
      intro r1 w1 hown1 hg1
      have hown1 := own_eq hown1 (m := (vput 9 x).length) (ys := U8 (vput 9 x)) (by simp) (by simp)
      have HO1 := Lib.hid hown1
      have HG1 := Lib.hid hg1
      clear hg1 hown1
      go_wp2_with (at_builtin; refine wpList_app rfl _ _ rfl el_u8 (own_grow HO.out HG1.out) rfl (Rd.own HO1.out) rfl (U8_one _) (by omega) (hg.out.tr HG1.out).size ?_; intro v2 w2 hown2 hgr2 hb2; have HG2 := Lib.hid (grow_app (hg.out.tr HG1.out) hgr2 (own_ge (own_grow HO.out HG1.out))); clear hgr2 hb2)
      go_roundw
      case rel =>
        refine ⟨k + 1, m + (vput 9 x).length, by omega, by go_num, by omega, own_eq hown2 rfl ?_, HG2⟩
        rw [← U8_app, HT.out]
        simp [pack]
      case measure => simp [intOf]; omega
    · obtain rfl : k = l.length := by omega
      go_wp2
      refine HR.out _ _ (own_eq hown ?_ ?_) hg.out
      · have := hown.1
        rw [U8_len, List.take_length] at this
        omega
      · rw [List.take_length]

set_option maxRecDepth 100000 in
set_option maxHeartbeats 1000000 in
theorem unpack_any (l : List UInt8) (v : Value) (S : Nat → Prop) (w : World) (hb : Rd w S 1 v l.length (U8 l)) (hl : l.length ≤ 100000) {R : Ending → World → Prop}
    (hR : ∀ r w', w'.ownsRow w.heap.size 78 1 r (unpack l).1.length (U32 (unpack l).1) → Grow w w' → R (.returned (.tuple #[r, .int .i64 (unpack l).2])) w') :
    Calls Try.prog 31 #[v] w R := by
  have HB := Lib.hid (hb.lt (by decide))
  obtain ⟨_, A, c, rfl, h1, h2, _, _⟩ := hb
  unfold maxLen at h2
  have HR := Lib.hid hR
  clear hR
  go_enter Try.func31, Try.ntmps31
  go_wp2
  go_loopw [5, 4] (fun i s wr => ∃ (k f : Nat) (acc : List Int), k ≤ l.length ∧ i = .int .i64 k ∧ Hid (l.length - k < f) ∧ Hid (unpack l = unpGo l f k acc) ∧ acc.length ≤ k ∧ wr.ownsRow w.heap.size 78 1 s acc.length (U32 acc) ∧ Hid (Grow w wr)) (fun i _ _ => l.length - (intOf i).toNat)
  case atStart => exact ⟨0, l.length + 1, [], Nat.zero_le _, rfl, by show _ < _; omega, rfl, by simp, World.ownsRow_nil _ _ _ _, Grow.refl _⟩
  case round =>
    obtain ⟨k, f, acc, hk, rfl, hf, hu, hal, hown, hg⟩ := hrel
    by_cases hlt : k < l.length
    · have HO := Lib.hid hown
      clear hown
      have H := fun S h => varint_any l (.slice A l.length c) k S wr h (by omega)
      have hok := fun {v nx : Int} => @varint_ok l k v nx
      obtain ⟨f, rfl⟩ := Nat.exists_eq_succ_of_ne_zero (show f ≠ 0 by have := hf.out; omega)
      have hnk : ¬ (l.length : Int) ≤ k := by omega
      have E1 := fun {v nx e : Int} => @unpGo_err l f k v nx e acc hnk
      have E2 := fun {v nx : Int} => @unpGo_big l f k v nx acc hnk
      have E3 := fun {v nx : Int} => @unpGo_more l f k v nx acc hnk
      generalize varint l k = X at *
      obtain ⟨x, nx, e⟩ := X
      dsimp only at H
      have H := Lib.hid H
      by_cases he : e = 0
      · subst he
        obtain ⟨hx0, _, hn1, hn2⟩ := hok rfl
        have F2 := Lib.hid (E2 rfl)
        have F3 := Lib.hid (E3 rfl)
        clear E1 E2 E3 hok hnk
        obtain ⟨x, rfl⟩ := Int.eq_ofNat_of_zero_le hx0
        obtain ⟨nx, rfl⟩ := Int.eq_ofNat_of_zero_le (show 0 ≤ nx by omega)
        by_cases hbig : 4294967295 < x
        · go_wp2_with fail
          refine (H.out _ (HB.out.grow hg.out)).mono ?_
          rintro e w' ⟨rfl, rfl⟩
          go_wp2
          have h := HR.out
          rw [hu.out, F2.out (by omega)] at h
          exact h _ _ (World.ownsRow_nil _ _ _ _) hg.out
        · go_wp2_with fail
          refine (H.out _ (HB.out.grow hg.out)).mono ?_
          rintro e w' ⟨rfl, rfl⟩
          go_wp2_with (at_builtin; refine wpList_new rfl _ _ rfl el_u32 HO.out rfl 1 _ rfl (by decide) rfl (by simp [Value.oneCell']) (by omega) hg.out ⟨Nat.le_refl _, hg.out.size⟩ ?_; intro v1 w1 hown1 hg1 hgr1 hb1; have HG1 := Lib.hid hg1; clear hg1 hgr1 hb1)
          go_roundw
          case rel =>
            refine ⟨nx, f, acc ++ [(x : Int)], by omega, rfl, ?_, ?_, ?_, own_eq hown1 (by simp) (by simp [U32]), HG1⟩
            · have := hf.out
              show _ < _
              omega
            · show _ = _
              rw [hu.out, F3.out (by omega)]
            · simp; omega
          case measure => simp [intOf]; omega
      · have t1 : (e != 0) = true := by simp [he]
        have F1 := Lib.hid (E1 rfl he)
        clear E1 E2 E3 hok hnk he
        go_wp2_with fail
        refine (H.out _ (HB.out.grow hg.out)).mono ?_
        rintro e w' ⟨rfl, rfl⟩
        go_wp2
        have h := HR.out
        rw [hu.out, F1.out] at h
        exact h _ _ (World.ownsRow_nil _ _ _ _) hg.out
    · obtain rfl : k = l.length := by omega
      go_wp2
      have h := HR.out
      rw [hu.out, unpGo_end (Int.le_refl _)] at h
      exact h _ _ hown hg.out

set_option maxRecDepth 100000 in
set_option maxHeartbeats 1000000 in
theorem runpack_any (l : List UInt8) (v : Value) (S : Nat → Prop) (w : World) (hb : Rd w S 1 v l.length (U8 l)) (hl : l.length ≤ 100000) {R : Ending → World → Prop}
    (hR : ∀ r w', w'.ownsRow w.heap.size 78 1 r (unpack l).1.length (U32 (unpack l).1) → Grow w w' → R (.returned (.tuple #[r, .int .i64 (unpack l).2])) w') :
    Calls Try.prog 32 #[v] w R := by
  have HB := Lib.hid (hb.lt (by decide))
  obtain ⟨_, A, c, rfl, h1, h2, _, _⟩ := hb
  unfold maxLen at h2
  have HR := Lib.hid hR
  clear hR
  go_enter Try.func32, Try.ntmps32
  go_wp2
  go_loopw [5, 4] (fun i s wr => ∃ (k f : Nat) (acc : List Int), k ≤ l.length ∧ i = .int .i64 k ∧ Hid (l.length - k < f) ∧ Hid (unpack l = unpGo l f k acc) ∧ acc.length ≤ k ∧ wr.ownsRow w.heap.size 78 1 s acc.length (U32 acc) ∧ Hid (Grow w wr)) (fun i _ _ => l.length - (intOf i).toNat)
  case atStart => exact ⟨0, l.length + 1, [], Nat.zero_le _, rfl, by show _ < _; omega, rfl, by simp, World.ownsRow_nil _ _ _ _, Grow.refl _⟩
  case round =>
    obtain ⟨k, f, acc, hk, rfl, hf, hu, hal, hown, hg⟩ := hrel
    by_cases hlt : k < l.length
    · have HO := Lib.hid hown
      clear hown
      have H := fun S h => rvarint_any l (.slice A l.length c) k S wr h (by omega)
      have hok := fun {v nx : Int} => @varint_ok l k v nx
      obtain ⟨f, rfl⟩ := Nat.exists_eq_succ_of_ne_zero (show f ≠ 0 by have := hf.out; omega)
      have hnk : ¬ (l.length : Int) ≤ k := by omega
      have E1 := fun {v nx e : Int} => @unpGo_err l f k v nx e acc hnk
      have E2 := fun {v nx : Int} => @unpGo_big l f k v nx acc hnk
      have E3 := fun {v nx : Int} => @unpGo_more l f k v nx acc hnk
      generalize varint l k = X at *
      obtain ⟨x, nx, e⟩ := X
      dsimp only at H
      have H := Lib.hid H
      by_cases he : e = 0
      · subst he
        obtain ⟨hx0, _, hn1, hn2⟩ := hok rfl
        have F2 := Lib.hid (E2 rfl)
        have F3 := Lib.hid (E3 rfl)
        clear E1 E2 E3 hok hnk
        obtain ⟨x, rfl⟩ := Int.eq_ofNat_of_zero_le hx0
        obtain ⟨nx, rfl⟩ := Int.eq_ofNat_of_zero_le (show 0 ≤ nx by omega)
        by_cases hbig : 4294967295 < x
        · go_wp2_with fail
          refine (H.out _ (HB.out.grow hg.out)).mono ?_
          rintro e w' ⟨rfl, rfl⟩
          go_wp2
          have h := HR.out
          rw [hu.out, F2.out (by omega)] at h
          exact h _ _ (World.ownsRow_nil _ _ _ _) hg.out
        · go_wp2_with fail
          refine (H.out _ (HB.out.grow hg.out)).mono ?_
          rintro e w' ⟨rfl, rfl⟩
          go_wp2_with (at_builtin; refine wpList_new rfl _ _ rfl el_u32 HO.out rfl 1 _ rfl (by decide) rfl (by simp [Value.oneCell']) (by omega) hg.out ⟨Nat.le_refl _, hg.out.size⟩ ?_; intro v1 w1 hown1 hg1 hgr1 hb1; have HG1 := Lib.hid hg1; clear hg1 hgr1 hb1)
          go_roundw
          case rel =>
            refine ⟨nx, f, acc ++ [(x : Int)], by omega, rfl, ?_, ?_, ?_, own_eq hown1 (by simp) (by simp [U32]), HG1⟩
            · have := hf.out
              show _ < _
              omega
            · show _ = _
              rw [hu.out, F3.out (by omega)]
            · simp; omega
          case measure => simp [intOf]; omega
      · have t1 : (e != 0) = true := by simp [he]
        have F1 := Lib.hid (E1 rfl he)
        clear E1 E2 E3 hok hnk he
        go_wp2_with fail
        refine (H.out _ (HB.out.grow hg.out)).mono ?_
        rintro e w' ⟨rfl, rfl⟩
        go_wp2
        have h := HR.out
        rw [hu.out, F1.out] at h
        exact h _ _ (World.ownsRow_nil _ _ _ _) hg.out
    · obtain rfl : k = l.length := by omega
      go_wp2
      have h := HR.out
      rw [hu.out, unpGo_end (Int.le_refl _)] at h
      exact h _ _ hown hg.out
end Go.Proofs.Ytehffeglgdcogaa
