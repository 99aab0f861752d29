import Derived.Test.YtehffeglgdcogaaDoorWGetP
import Derived.Test.YtehffeglgdcogaaDoorBox
import Derived.Test.YtehffeglgdcogaaDoorWire1
import Derived.Test.YtehffeglgdcogaaDoorWire2
namespace Go.Proofs.YtehffeglgdcogaaDoor
open Go.RowKit Go.Lib

theorem blk_set {W : World} {B : Nat} {cs : Array Value} {t : TypeId} (h : W.heap[B]? = some (.cells cs t (0, 0))) (j : Nat) (v : Value) : (W.setCell ⟨B, j, none⟩ v).heap[B]? = some (.cells (cs.setIfInBounds j v) t (0, 0)) := by
  simp [World.setCell, Array.getElem?_modify, h]
theorem grow_blk {W W' : World} (hg : Grow W W') {B : Nat} {o : Obj} (h : W.heap[B]? = some o) : W'.heap[B]? = some o := (hg.block B (lt_of_block h)).trans h

/-- a part of what is read -/
theorem Rd.sub8 {w : World} {S : Nat → Prop} {A : Option Addr} {c : Nat} {l : List UInt8} (h : Rd w S 1 (.slice A l.length c) l.length (U8 l)) {i m : Nat} (hm : i + m ≤ l.length) :
    Rd w S 1 (.slice (if c = i then A else Option.map (fun x => x.add i) A) m (c - i)) ((l.drop i).take m).length (U8 ((l.drop i).take m)) := by
  obtain ⟨_, A', c', hv, h1, h2, h3, h4⟩ := h
  injection hv with e1 _ e2
  subst e1 e2
  have hlen : ((l.drop i).take m).length = m := by simp; omega
  rw [hlen]
  refine ⟨by rw [U8_len, hlen, Nat.mul_one], _, _, rfl, by omega, by omega, ?_, ?_⟩
  · intro e
    split at e
    · have := h3 e; omega
    · have : A = none := by simpa using e
      have := h3 this; omega
  · intro hn
    obtain ⟨b, o, rfl, hS, hc⟩ := h4 (by omega)
    refine ⟨b, o + i, ?_, hS, ?_⟩
    · rw [if_neg (by omega)]; simp [Addr.add]
    · intro j x hx
      have := hc (i + j) x (by
        have hj : j < m := by
          have := (List.getElem?_eq_some_iff.1 hx).1
          rw [U8_len, hlen] at this; exact this
        rw [← hx]
        simp [U8, hj])
      rw [show o + i + j = o + (i + j) by omega]
      exact this

set_option maxRecDepth 100000 in
set_option maxHeartbeats 2000000 in
theorem body_any (l : List UInt8) (v : Value) (k kind : Nat) (S : Nat → Prop) (w : World) (hb : Rd w S 1 v l.length (U8 l)) (hl : l.length ≤ 1000000) (hk : k ≤ l.length) (hkd : kind < 8) {R : Ending → World → Prop}
    (hR : ∀ dv w', Grow w w' → Rd w' (fun b => w.heap.size ≤ b) 1 dv (bodyS l k kind).2.1.length (U8 (bodyS l k kind).2.1) → R (.returned (.tuple #[.agg #[.int .i64 0, .int .i64 0, .int .u64 (bodyS l k kind).1, dv], .int .i64 (bodyS l k kind).2.2.1, .int .i64 (bodyS l k kind).2.2.2])) w') :
    Calls Tryd.prog 41 #[v, .int .i64 k, .int .i64 kind] w R := by
  have hb := hb.lt (by decide)
  have HB := Lib.hid hb
  have HR := Lib.hid hR
  clear hR
  obtain ⟨_, A, c, rfl, h1, h2, h3, h4⟩ := hb
  unfold maxLen at h2
  have HX : Hid ((w.alloc (.cells #[.int .i64 0, .int .i64 0, .int .u64 0, .slice none 0 0] 50)).heap[w.heap.size]? = some (.cells #[.int .i64 0, .int .i64 0, .int .u64 0, .slice none 0 0] 50 (0, 0))) := heap_alloc_new _ _
  have GX : Hid (Grow w (w.alloc (.cells #[.int .i64 0, .int .i64 0, .int .u64 0, .slice none 0 0] 50))) := (Grow.refl w).al _
  have H := Lib.hid fun S W h => varint_any l (.slice A l.length c) k S W h hl
  have HE := Lib.hid (varint_err l k)
  have HK := fun {v nx : Int} => @varint_ok l k v nx
  have HD := fun {v nx : Int} => @varint_bd l k v nx
  by_cases h0 : kind = 0
  · subst h0
    have BS : bodyS l k 0 = ((varint l k).1.toNat, [], (varint l k).2.1, (varint l k).2.2) := by simp [bodyS]
    rw [BS] at HR
    have hp : 0 ≤ (varint l k).1 := by
      by_cases he : (varint l k).2.2 = 0
      · exact (HK (show varint l k = ((varint l k).1, (varint l k).2.1, 0) by rw [← he])).1
      · rw [(HE.out he).1]; exact Int.le_refl _
    clear BS HE HK HD
    generalize varint l k = X at *
    obtain ⟨x, nx, e⟩ := X
    dsimp only at H HR hp
    obtain ⟨x, rfl⟩ := Int.eq_ofNat_of_zero_le hp
    go_enter Tryd.func41, Tryd.ntmps41
    go_wp2_with fail
    refine (H.out _ _ (HB.out.grow GX.out)).mono ?_
    rintro e' w' ⟨rfl, rfl⟩
    go_wp2
    refine bodyPost_ret (v := .tuple #[.agg #[.int .i64 0, .int .i64 0, .int .u64 x, .slice none 0 0], .int .i64 nx, .int .i64 e]) (by simp [results, Tryd.f41, go_sem]) rfl (HR.out _ _ ((Grow.refl w).al _) Rd.nil)
  · have t0 : ((kind : Int) == 0) = false := by rw [beq_eq_false_iff_ne]; omega
    by_cases h2' : kind = 2
    · subst h2'
      by_cases he : (varint l k).2.2 = 0
      · have hv : varint l k = ((varint l k).1, (varint l k).2.1, 0) := by rw [← he]
        obtain ⟨o1, o2, o3, o4⟩ := HK hv
        obtain ⟨o5, -⟩ := HD hv
        by_cases hs : (l.length : Int) - (varint l k).2.1 < (varint l k).1
        · have BS : bodyS l k 2 = (0, [], 0, 2) := by simp [bodyS, he, hs]
          rw [BS] at HR
          rw [he] at H
          clear BS HE HK HD he hv
          generalize varint l k = X at *
          obtain ⟨x, nx, e⟩ := X
          dsimp only at H HR hs o1 o2 o3 o4 o5
          obtain ⟨x, rfl⟩ := Int.eq_ofNat_of_zero_le o1
          obtain ⟨nx, rfl⟩ := Int.eq_ofNat_of_zero_le (show 0 ≤ nx by omega)
          go_enter Tryd.func41, Tryd.ntmps41
          go_wp2_with fail
          refine (H.out _ _ (HB.out.grow GX.out)).mono ?_
          rintro e' w' ⟨rfl, rfl⟩
          go_wp2
          refine bodyPost_ret (v := .tuple #[.agg #[.int .i64 0, .int .i64 0, .int .u64 0, .slice none 0 0], .int .i64 0, .int .i64 2]) (by simp [results, Tryd.f41, go_sem]) rfl (HR.out _ _ ((Grow.refl w).al _) Rd.nil)
        · have BS : bodyS l k 2 = (0, (l.drop (varint l k).2.1.toNat).take (varint l k).1.toNat, (varint l k).2.1 + (varint l k).1, 0) := by simp [bodyS, he, hs]
          rw [BS] at HR
          rw [he] at H
          clear BS HE HK HD he hv
          generalize varint l k = X at *
          obtain ⟨x, nx, e⟩ := X
          dsimp only at H HR hs o1 o2 o3 o4 o5
          obtain ⟨x, rfl⟩ := Int.eq_ofNat_of_zero_le o1
          obtain ⟨nx, rfl⟩ := Int.eq_ofNat_of_zero_le (show 0 ≤ nx by omega)
          have hsn : nx + x ≤ l.length := by omega
          have u1 : IntKind.u64.wrap ((l.length : Int) - nx) = (l.length : Int) - nx := by rw [IntKind.wrap_u64]; omega
          have u2 : decide ((l.length : Int) - nx < x) = false := by simp; omega
          clear hs o1 o2 o3 o4 h3 h4
          go_enter Tryd.func41, Tryd.ntmps41
          go_wp2_with fail
          refine (H.out _ _ (HB.out.grow GX.out)).mono ?_
          rintro e' w' ⟨rfl, rfl⟩
          clear H
          dsimp only
          repeat (first | go_values | go_skip | go_guarded | go_step | go_upon | go_back)
          have hlen : ((l.drop nx).take x).length = x := by simp; omega
          have HSB := Rd.sub8 (HB.out.gr2 (by decide) GX.out) hsn
          simp only [Int.toNat_natCast] at HR
          generalize (l.drop nx).take x = D at *
          generalize (if c = nx then A else Option.map (fun x => x.add nx) A) = A3 at *
          have HSB := Lib.hid HSB
          refine clone_any D _ _ _ (by have := HSB.out; rw [hlen] at this ⊢; exact this) (by omega) ?_
          intro r w2 hown2 hg2
          have HO := Lib.hid hown2
          have G2 := Lib.hid (GX.out.tr hg2)
          have b2 := grow_blk hg2 HX.out
          have c0 := cell_of_row w2 w.heap.size 0 _ _ (0, 0) b2
          have c1 := cell_of_row w2 w.heap.size 1 _ _ (0, 0) b2
          have c2 := cell_of_row w2 w.heap.size 2 _ _ (0, 0) b2
          have c3 := cell_of_row w2 w.heap.size 3 _ _ (0, 0) b2
          have c4 := frozen_of_row w2 w.heap.size 3 _ _ b2
          obtain ⟨A9, c9, rfl⟩ := own_slice hown2
          have b3 := blk_set b2 3 (.slice A9 D.length c9)
          have b4 := blk_set b3 0 (.int .i64 0)
          have b5 := blk_set b4 1 (.int .i64 0)
          have b6 := blk_set b5 2 (.int .u64 0)
          have b7 := blk_set b6 3 (.slice A9 D.length c9)
          have d0 := cell_of_row _ w.heap.size 0 _ _ (0, 0) b3
          have d1 := cell_of_row _ w.heap.size 1 _ _ (0, 0) b3
          have d2 := cell_of_row _ w.heap.size 2 _ _ (0, 0) b3
          have d3 := cell_of_row _ w.heap.size 3 _ _ (0, 0) b3
          have f0 := frozen_of_row _ w.heap.size 0 _ _ b3
          have f1 := frozen_of_row _ w.heap.size 1 _ _ b4
          have f2 := frozen_of_row _ w.heap.size 2 _ _ b5
          have f3 := frozen_of_row _ w.heap.size 3 _ _ b6
          have g1 := cell_of_row _ w.heap.size 1 _ _ (0, 0) b4
          have g2 := cell_of_row _ w.heap.size 2 _ _ (0, 0) b5
          have g3 := cell_of_row _ w.heap.size 3 _ _ (0, 0) b6
          have r0 := cell_of_row _ w.heap.size 0 _ _ (0, 0) b7
          have r1 := cell_of_row _ w.heap.size 1 _ _ (0, 0) b7
          have r2 := cell_of_row _ w.heap.size 2 _ _ (0, 0) b7
          have r3 := cell_of_row _ w.heap.size 3 _ _ (0, 0) b7
          clear b3 b4 b5 b6 b7
          have HLEN := Lib.hid hlen
          clear hown2 hg2 b2 t0 u1 u2 hsn o5 hl hk hkd hlen h1 h2 HB HSB HX
          dsimp only
          go_wp2
          refine bodyPost_ret (v := .tuple #[.agg #[.int .i64 0, .int .i64 0, .int .u64 0, .slice A9 D.length c9], .int .i64 ((nx : Int) + x), .int .i64 0]) (by simp [results, Tryd.f41, go_sem, r0, r1, r2, r3]) rfl (HR.out _ _ ?_ ?_)
          · exact ((((G2.out.set (p := ⟨w.heap.size, 3, none⟩) (Nat.le_refl _) _).set (p := ⟨w.heap.size, 0, none⟩) (Nat.le_refl _) _).set (p := ⟨w.heap.size, 1, none⟩) (Nat.le_refl _) _).set (p := ⟨w.heap.size, 2, none⟩) (Nat.le_refl _) _).set (p := ⟨w.heap.size, 3, none⟩) (Nat.le_refl _) _
          · have hlt : w.heap.size < (w.alloc (.cells #[.int .i64 0, .int .i64 0, .int .u64 0, .slice none 0 0] 50)).heap.size := by rw [World.size_alloc]; omega
            exact (Rd.own_from (ownsRow_setCell_below (ownsRow_setCell_below (ownsRow_setCell_below (ownsRow_setCell_below (ownsRow_setCell_below HO.out (a := ⟨w.heap.size, 3, none⟩) hlt _) (a := ⟨w.heap.size, 0, none⟩) hlt _) (a := ⟨w.heap.size, 1, none⟩) hlt _) (a := ⟨w.heap.size, 2, none⟩) hlt _) (a := ⟨w.heap.size, 3, none⟩) hlt _)).into fun b hb => Nat.le_trans (Nat.le_of_lt hlt) hb
      · have BS : bodyS l k 2 = (0, [], 0, (varint l k).2.2) := by simp [bodyS, he]
        rw [BS] at HR
        obtain ⟨v1, v2⟩ := HE.out he
        rw [v1, v2] at H
        clear BS HE HK HD v1 v2
        have t1 : ((varint l k).2.2 != 0) = true := by simp [he]
        generalize (varint l k).2.2 = e at *
        clear he
        go_enter Tryd.func41, Tryd.ntmps41
        go_wp2_with fail
        refine (H.out _ _ (HB.out.grow GX.out)).mono ?_
        rintro e' w' ⟨rfl, rfl⟩
        go_wp2
        refine bodyPost_ret (v := .tuple #[.agg #[.int .i64 0, .int .i64 0, .int .u64 0, .slice none 0 0], .int .i64 0, .int .i64 e]) (by simp [results, Tryd.f41, go_sem]) rfl (HR.out _ _ ((Grow.refl w).al _) Rd.nil)
    · have t2 : ((kind : Int) == 2) = false := by rw [beq_eq_false_iff_ne]; omega
      clear H HE HK HD
      by_cases h1' : kind = 1
      · subst h1'
        have t3 : ((1 : Int) == 1) = true := by decide
        have t4 : ((1 : Int) == 5) = false := by decide
        by_cases hs : l.length - k < 8
        · have BS : bodyS l k 1 = (0, [], 0, 2) := by simp [bodyS, hs]
          rw [BS] at HR
          have u1 : decide ((l.length : Int) - k < 8) = true := by simp; omega
          clear BS
          go_enter Tryd.func41, Tryd.ntmps41
          go_wp2
          refine bodyPost_ret (v := .tuple #[.agg #[.int .i64 0, .int .i64 0, .int .u64 0, .slice none 0 0], .int .i64 0, .int .i64 2]) (by simp [results, Tryd.f41, go_sem]) rfl (HR.out _ _ ((Grow.refl w).al _) Rd.nil)
        · have BS : bodyS l k 1 = (lowN ((l.drop k).take 8), [], ((k + 8 : Nat) : Int), 0) := by simp [bodyS, hs]
          rw [BS] at HR
          have hsn : k + 8 ≤ l.length := by omega
          have u1 : decide ((l.length : Int) - k < 8) = false := by simp; omega
          have hlen : ((l.drop k).take 8).length = 8 := by simp; omega
          have HSB := Rd.sub8 (HB.out.gr2 (by decide) GX.out) hsn
          have HL := Lib.hid fun (v : Value) (W : World) (h : Rd W (· < w.heap.size) 1 v ((l.drop k).take 8).length (U8 ((l.drop k).take 8))) (R : Ending → World → Prop) hR => low_any ((l.drop k).take 8) v _ W h (by omega) (R := R) hR
          generalize lowN ((l.drop k).take 8) = q at *
          rw [if_neg (show ¬ c = k by omega)] at HSB
          have HSB := Lib.hid HSB
          clear BS hs h3 h4
          go_enter Tryd.func41, Tryd.ntmps41
          repeat (first | go_values | go_skip | go_guarded | go_step | go_upon | go_back)
          refine HL.out _ _ HSB.out _ ?_
          go_wp2
          refine bodyPost_ret (v := .tuple #[.agg #[.int .i64 0, .int .i64 0, .int .u64 q, .slice none 0 0], .int .i64 ((k + 8 : Nat) : Int), .int .i64 0]) (by simp [results, Tryd.f41, go_sem]) rfl (HR.out _ _ ((Grow.refl w).al _) Rd.nil)
      · have t3 : ((kind : Int) == 1) = false := by rw [beq_eq_false_iff_ne]; omega
        by_cases h5' : kind = 5
        · subst h5'
          have t3 : ((5 : Int) == 1) = false := by decide
          have t4 : ((5 : Int) == 5) = true := by decide
          by_cases hs : l.length - k < 4
          · have BS : bodyS l k 5 = (0, [], 0, 2) := by simp [bodyS, hs]
            rw [BS] at HR
            have u1 : decide ((l.length : Int) - k < 4) = true := by simp; omega
            clear BS
            go_enter Tryd.func41, Tryd.ntmps41
            go_wp2
            refine bodyPost_ret (v := .tuple #[.agg #[.int .i64 0, .int .i64 0, .int .u64 0, .slice none 0 0], .int .i64 0, .int .i64 2]) (by simp [results, Tryd.f41, go_sem]) rfl (HR.out _ _ ((Grow.refl w).al _) Rd.nil)
          · have BS : bodyS l k 5 = (lowN ((l.drop k).take 4), [], ((k + 4 : Nat) : Int), 0) := by simp [bodyS, hs]
            rw [BS] at HR
            have hsn : k + 4 ≤ l.length := by omega
            have u1 : decide ((l.length : Int) - k < 4) = false := by simp; omega
            have hlen : ((l.drop k).take 4).length = 4 := by simp; omega
            have HSB := Rd.sub8 (HB.out.gr2 (by decide) GX.out) hsn
            have HL := Lib.hid fun (v : Value) (W : World) (h : Rd W (· < w.heap.size) 1 v ((l.drop k).take 4).length (U8 ((l.drop k).take 4))) (R : Ending → World → Prop) hR => low_any ((l.drop k).take 4) v _ W h (by omega) (R := R) hR
            generalize lowN ((l.drop k).take 4) = q at *
            rw [if_neg (show ¬ c = k by omega)] at HSB
            have HSB := Lib.hid HSB
            clear BS hs h3 h4
            go_enter Tryd.func41, Tryd.ntmps41
            repeat (first | go_values | go_skip | go_guarded | go_step | go_upon | go_back)
            refine HL.out _ _ HSB.out _ ?_
            go_wp2
            refine bodyPost_ret (v := .tuple #[.agg #[.int .i64 0, .int .i64 0, .int .u64 q, .slice none 0 0], .int .i64 ((k + 4 : Nat) : Int), .int .i64 0]) (by simp [results, Tryd.f41, go_sem]) rfl (HR.out _ _ ((Grow.refl w).al _) Rd.nil)
        · have t4 : ((kind : Int) == 5) = false := by rw [beq_eq_false_iff_ne]; omega
          have BS : bodyS l k kind = (0, [], 0, 3) := by simp [bodyS, h0, h2', h1', h5']
          rw [BS] at HR
          clear BS h0 h2' h1' h5'
          go_enter Tryd.func41, Tryd.ntmps41
          go_wp2
          refine bodyPost_ret (v := .tuple #[.agg #[.int .i64 0, .int .i64 0, .int .u64 0, .slice none 0 0], .int .i64 0, .int .i64 3]) (by simp [results, Tryd.f41, go_sem]) rfl (HR.out _ _ ((Grow.refl w).al _) Rd.nil)
end Go.Proofs.YtehffeglgdcogaaDoor
