import Derived.Test.YthgibnmnjoniiaaChecked
import Derived.Test.YthgibnmnjoniiaaBox
import Derived.Test.YthgibnmnjoniiaaNorm
import Derived.Test.YthgibnmnjoniiaaSimp
import Derived.Test.YthgibnmnjoniiaaRNorm
import Derived.Test.YthgibnmnjoniiaaRSimp
import Derived.Test.YthgibnmnjoniiaaDel
import Derived.Test.YthgibnmnjoniiaaLive26
namespace Go.Proofs.Ythgibnmnjoniiaa
open Go.RowKit Go.Lib B

set_option maxRecDepth 100000 in
set_option maxHeartbeats 4000000 in
theorem normRounds_walk (l : List Spot) (p : List Pt) (closed : Bool) (lo hi : Int) (a b : Value) (S T : Nat → Prop) (w : World) (hl : Rd w S 6 a l.length (Spots l)) (hp : Rd w T 2 b p.length (Pts p)) (hlk : ∀ s ∈ l, s.ok)
    {R : Ending → World → Prop} (hR : ∀ w', Grow w w' → R (.returned (.bool true)) w') :
    Calls Try.prog 7 #[a, b, .bool closed, .int .i64 lo, .int .i64 hi] w R := by
  have HR := Lib.hid hR
  clear hR
  have hp := hp.lt (by decide)
  have hl := hl.lt (by decide)
  have HP := Lib.hid hp
  have HL := Lib.hid hl
  have HLK := Lib.hid hlk
  clear hlk
  obtain ⟨_, A, c, rfl, h1, h2, h3, h4⟩ := hl
  obtain ⟨_, B, d, rfl, k1, k2, k3, k4⟩ := hp
  unfold maxLen at h2 k2
  clear h3 h4
  by_cases hl1 : l.length ≤ 100
  · have t1 : decide (100 < (l.length : Int)) = false := by simp; omega
    by_cases hp1 : p.length ≤ 100
    · have t2 : decide (100 < (p.length : Int)) = false := by simp; omega
      go_enter Try.func7, Try.ntmps7
      go_wp2
      clear t1 t2
      go_loopw [12, 11] (fun i s wr => ∃ (k m : Nat), k ≤ p.length ∧ i = .int .i64 k ∧ m ≤ k ∧ Hid (m = ((p.take k).filter fun q => q.inside lo hi).length) ∧ wr.ownsRow w.heap.size 24 2 s m (Pts ((p.take k).filter fun q => q.inside lo hi)) ∧ Hid (Grow w wr)) (fun i _ _ => p.length - (intOf i).toNat)
      case atStart => exact ⟨0, 0, Nat.zero_le _, rfl, Nat.le_refl _, rfl, World.ownsRow_nil _ _ _ _, Grow.refl _⟩
      case round =>
        obtain ⟨k, m, hk, rfl, hmk, hm, hown, hg⟩ := hrel
        by_cases hlt : k < p.length
        · obtain ⟨b1, o1, rfl, hS, hc⟩ := k4 (by omega)
          have e0 := fun W (h : Grow w W) => flat_cells Pt.cells_len h hS hc hlt
          have HT : Hid (p[k].inside lo hi = true → (p.take (k + 1)).filter (fun q => q.inside lo hi) = (p.take k).filter (fun q => q.inside lo hi) ++ [p[k]]) := by
            intro h
            rw [List.take_succ_eq_append_getElem hlt, List.filter_append]
            simp [h]
          have HF : Hid (p[k].inside lo hi = false → (p.take (k + 1)).filter (fun q => q.inside lo hi) = (p.take k).filter (fun q => q.inside lo hi)) := by
            intro h
            rw [List.take_succ_eq_append_getElem hlt, List.filter_append]
            simp [h]
          have HI := Lib.hid fun W (R : Ending → World → Prop) hR => inside_any (p[k]'hlt) lo hi W (R := R) hR
          have HO := Lib.hid hown
          clear hc k4 k3 hown
          generalize (p[k]'hlt).inside lo hi = bi at *
          generalize p[k] = x at *
          obtain ⟨x1, x2⟩ := x
          have E1 : Hid (∀ W, Grow w W → W.cell? ⟨b1, o1 + k * 2, none⟩ = some (.int .i64 x1) ∧ W.cell? ⟨b1, o1 + k * 2 + 1, none⟩ = some (.int .i64 x2)) := fun W h => ⟨e0 W h 0 _ rfl, e0 W h 1 _ rfl⟩
          clear e0
          unfold Pt.cells at HI
          dsimp only at HI
          obtain ⟨c1, c2⟩ := E1.out _ hg.out
          go_wp2_with fail
          refine HI.out _ _ ?_
          intro w1 hg1
          have G1 := Lib.hid (hg.out.tr hg1)
          have O1 := Lib.hid (own_grow HO.out hg1)
          clear c1 c2 hg1
          cases bi with
          | false =>
            go_wp2
            go_roundw
            case rel => exact ⟨k + 1, m, by omega, by go_num, by omega, by rw [HF.out (by first | rfl | trivial)]; exact hm.out, by rw [HF.out (by first | rfl | trivial)]; exact O1.out, G1.out⟩
            case measure => simp [intOf]; omega
          | true =>
            obtain ⟨c1, c2⟩ := E1.out _ G1.out
            go_wp2_with (at_builtin; refine wpList_new rfl _ _ rfl el_pt O1.out rfl 1 _ rfl (by decide) rfl (by simp [Value.oneCell']) (by omega) G1.out ⟨Nat.le_refl _, G1.out.size⟩ ?_; intro v1 w4 hown4 hg4 hgr4 hb4; have HG4 := Lib.hid hg4; have HO4 := Lib.hid hown4; clear hg4 hgr4 hb4 hown4 c1 c2)
            go_roundw
            case rel => exact ⟨k + 1, m + 1, by omega, by go_num, by omega, by rw [HT.out (by first | rfl | trivial), List.length_append, ← hm.out]; rfl, by rw [HT.out (by first | rfl | trivial), Pts_app]; exact HO4.out, HG4.out⟩
            case measure => simp [intOf]; omega
        · obtain rfl : k = p.length := by omega
          rw [List.take_length] at hown hm
          have HG := Lib.hid hg.out
          have HOI := Lib.hid hown
          clear hown k3 k4
          have hm' := hm.out
          subst hm'
          go_wp2_with fail
          refine nround_any l _ _ wr (HL.out.gr (by decide) HG.out) HLK.out (by omega) ?_
          intro r1 w1 hown1 hg1
          have G1 := Lib.hid (HG.out.tr hg1)
          have O1 := Lib.hid hown1
          have OI := Lib.hid (own_grow HOI.out hg1)
          clear hown1 hg1
          go_wp2_with fail
          refine rround_any l _ _ w1 (HL.out.gr (by decide) G1.out) HLK.out (by omega) ?_
          intro r2 w2 hown2 hg2
          have G2 := Lib.hid (G1.out.tr hg2)
          have O1 := Lib.hid (own_grow O1.out hg2)
          have OI := Lib.hid (own_grow OI.out hg2)
          have O2 := Lib.hid hown2
          clear hown2 hg2
          go_wp2_with fail
          refine samePts_any r1 r2 (l.map Spot.round) (l.map Spot.round) _ _ w2 (by have := Rd.own O1.out; rw [List.length_map]; exact this) (by have := Rd.own O2.out; rw [List.length_map]; exact this) ?_
          intro w3 hg3
          have G3 := Lib.hid (G2.out.tr hg3)
          have OI := Lib.hid (own_grow OI.out hg3)
          clear hg3
          go_wp2_with fail
          refine simple_any p closed _ _ w3 (HP.out.gr (by decide) G3.out) (by omega) ?_
          intro r4 w4 hown4 hg4
          have G4 := Lib.hid (G3.out.tr hg4)
          have OI := Lib.hid (own_grow OI.out hg4)
          have O4 := Lib.hid hown4
          clear hown4 hg4
          go_wp2_with fail
          refine rsimple_any p closed _ _ w4 (HP.out.gr (by decide) G4.out) (by omega) ?_
          intro r5 w5 hown5 hg5
          have G5 := Lib.hid (G4.out.tr hg5)
          have OI := Lib.hid (own_grow OI.out hg5)
          have O4 := Lib.hid (own_grow O4.out hg5)
          have O5 := Lib.hid hown5
          clear hown5 hg5
          go_wp2_with fail
          refine samePts_any r4 r5 _ _ _ _ w5 (Rd.own O4.out) (Rd.own O5.out) ?_
          intro w6 hg6
          have G6 := Lib.hid (G5.out.tr hg6)
          have OI := Lib.hid (own_grow OI.out hg6)
          clear hg6
          go_wp2_with fail
          refine npoints_any p lo hi _ _ w6 (HP.out.gr (by decide) G6.out) (by omega) ?_
          intro r7 w7 hown7 hg7
          have G7 := Lib.hid (G6.out.tr hg7)
          have OI := Lib.hid (own_grow OI.out hg7)
          have O7 := Lib.hid hown7
          clear hown7 hg7
          go_wp2_with fail
          refine samePts_any r7 _ _ _ _ _ w7 (Rd.own O7.out) (Rd.own OI.out) ?_
          intro w8 hg8
          have G8 := Lib.hid (G7.out.tr hg8)
          clear hg8
          go_wp2_with fail
          refine live26_any _ ?_
          intro w9 hg9
          go_wp2
          exact HR.out _ (G8.out.tr hg9)
    · have t2 : decide (100 < (p.length : Int)) = true := by simp; omega
      go_enter Try.func7, Try.ntmps7
      go_wp2_with (go_at_call 18; refine live26_any _ ?_; intro w1 hg1)
      exact HR.out _ hg1
  · have t1 : decide (100 < (l.length : Int)) = true := by simp; omega
    go_enter Try.func7, Try.ntmps7
    go_wp2_with (go_at_call 18; refine live26_any _ ?_; intro w1 hg1)
    exact HR.out _ hg1
