import Derived.Test.YthgibnmnjoniiaaArounds
import Derived.Test.YthgibnmnjoniiaaNorm
namespace Go.Proofs.Ythgibnmnjoniiaa
open Go.RowKit B

theorem areaS_append : ∀ a b : List (Pt × Pt), areaS (a ++ b) = areaS a + areaS b
  | [], b => by simp [areaS]
  | x :: a, b => by simp only [List.cons_append, areaS, areaS_append a b]; omega
theorem areaS_reverse : ∀ a : List (Pt × Pt), areaS a.reverse = areaS a
  | [] => rfl
  | x :: a => by rw [List.reverse_cons, areaS_append, areaS_reverse a]; simp only [areaS]; omega
theorem areaS_swap : ∀ a : List (Pt × Pt), areaS (a.map Prod.swap) = -areaS a
  | [] => rfl
  | x :: a => by
    simp only [List.map_cons, areaS, areaS_swap a, crossT, Prod.fst_swap, Prod.snd_swap]
    rw [Int.mul_comm x.2.x, Int.mul_comm x.1.x, Int.mul_comm x.1.y, Int.mul_comm x.2.y]
    omega
theorem edges_rev (l : List Pt) : edgesL l.reverse = (((edgesL l).take (l.length - 1)).reverse ++ (edgesL l).drop (l.length - 1)).map Prod.swap := by
  apply List.ext_getElem
  · simp [edgesL_len] <;> omega
  · intro i h1 h2
    rw [edgesL_len, List.length_reverse] at h1
    rw [edgesL_at (by simpa using h1), List.getElem_map]
    by_cases hi : i < l.length - 1
    · rw [List.getElem_append_left (by simp [edgesL_len]; omega)]
      simp only [List.getElem_reverse, List.getElem_take, List.length_take, edgesL_len, List.length_reverse]
      rw [edgesL_at (by omega)]
      have e1 : (i + 1) % l.length = i + 1 := Nat.mod_eq_of_lt (by omega)
      have e2 : (l.length - 1 - 1 - i + 1) % l.length = l.length - 1 - i := by rw [Nat.mod_eq_of_lt (by omega)]; omega
      simp only [Prod.swap, Prod.mk.injEq]
      have e3 : min (l.length - 1) l.length - 1 - i = l.length - 1 - 1 - i := by omega
      simp only [e1, e3, e2]
      have e4 : l.length - 1 - (i + 1) = l.length - 1 - 1 - i := by omega
      simp only [e4]
      exact ⟨trivial, trivial⟩
    · obtain rfl : i = l.length - 1 := by omega
      rw [List.getElem_append_right (by simp [edgesL_len]), List.getElem_drop, edgesL_at (by simp only [List.length_reverse, List.length_take, edgesL_len]; omega)]
      have e1 : (l.length - 1 + 1) % l.length = 0 := by rw [Nat.sub_add_cancel (by omega)]; exact Nat.mod_self _
      have e2 : l.length - 1 + (l.length - 1 - min (l.length - 1) l.length) = l.length - 1 := by omega
      simp only [List.getElem_reverse, List.length_reverse, Prod.swap, List.length_take, edgesL_len, e2, e1, Nat.sub_self, Nat.sub_zero]
theorem areaOf_rev (l : List Pt) : areaOf l.reverse = -areaOf l := by
  rw [areaOf, edges_rev, areaS_swap, areaS_append, areaS_reverse, ← areaS_append, List.take_append_drop]; rfl
theorem rightL_rev (l : List Pt) : rightL l.reverse = rightL l := by simp [rightL]
theorem areaV_rev (l : List Pt) : areaV l.reverse = -areaV l := by
  rw [areaV, areaV, rightL_rev, areaOf_rev]; split <;> rfl
theorem areaV_bd (l : List Pt) (hl : l.length ≤ 1000) : -8796093022208000 ≤ areaV l ∧ areaV l ≤ 8796093022208000 := by
  unfold areaV
  split
  · rename_i hr
    have hin : ∀ p ∈ l, (-2097152 ≤ p.x ∧ p.x ≤ 2097152) ∧ -2097152 ≤ p.y ∧ p.y ≤ 2097152 := by
      intro p hp
      simp only [rightL, Bool.and_eq_true, List.all_eq_true] at hr
      exact Pt.inr_iff.1 (hr.2 p hp)
    have HE := edgesL_in hin
    rw [areaOf, areaS_split]
    have h1 := sumP_bd (fun x => x.1.x * x.2.y) (edgesL l) (fun x hx => by
      obtain ⟨⟨⟨a1, a2⟩, a3, a4⟩, ⟨b1, b2⟩, b3, b4⟩ := HE x hx
      exact mul_bd ⟨a1, a2⟩ ⟨b3, b4⟩)
    have h2 := sumP_bd (fun x => x.2.x * x.1.y) (edgesL l) (fun x hx => by
      obtain ⟨⟨⟨a1, a2⟩, a3, a4⟩, ⟨b1, b2⟩, b3, b4⟩ := HE x hx
      exact mul_bd ⟨b1, b2⟩ ⟨a3, a4⟩)
    rw [edgesL_len] at h1 h2
    generalize sumP (fun x => x.1.x * x.2.y) (edgesL l) = u at *
    generalize sumP (fun x => x.2.x * x.1.y) (edgesL l) = v at *
    omega
  · omega

set_option maxRecDepth 100000 in
set_option maxHeartbeats 2000000 in
theorem windAreas_walk (l : List Pt) (v : Value) (S : Nat → Prop) (w : World) (hb : Rd w S 2 v l.length (Pts l)) {R : Ending → World → Prop}
    (hR : ∀ w', Grow w w' → R (.returned (.bool true)) w') :
    Calls Try.prog 6 #[v] w R := by
  have hb := hb.lt (by decide)
  have HR := Lib.hid hR
  have HV := Lib.hid (fun W (R : Ending → World → Prop) hR => live27_any W (R := R) hR)
  by_cases hl : 200 < l.length
  · clear hR
    obtain ⟨_, A, c, rfl, k1, k2, -, k4⟩ := hb
    unfold maxLen at k2
    go_enter Try.func6, Try.ntmps6
    go_wp2_with (go_at_call 15; refine HV.out _ _ ?_; intro w1 hg1)
    exact HR.out _ hg1
  have HA := Lib.hid fun W (h : Grow w W) (R : Ending → World → Prop) hR => area_any l v _ W (hb.gr2 (by decide) h) (R := R) hR
  have HB := Lib.hid fun W (h : Grow w W) (R : Ending → World → Prop) hR => rarea_any l v _ W (hb.gr2 (by decide) h) (R := R) hR
  have HS := Lib.hid fun W (h : Grow w W) (R : Ending → World → Prop) hR => wsign_any l v _ W (hb.gr2 (by decide) h) (R := R) hR
  have HT := Lib.hid fun W (h : Grow w W) (R : Ending → World → Prop) hR => rsign_any l v _ W (hb.gr2 (by decide) h) (R := R) hR
  have HD := Lib.hid fun (W : World) (S : Nat → Prop) (u : Value) (h : Rd W S 2 u l.reverse.length (Pts l.reverse)) (R : Ending → World → Prop) hR => area_any l.reverse u S W h (R := R) hR
  change Hid (∀ W, Grow w W → ∀ (R : Ending → World → Prop), (∀ w', Grow W w' → R (.returned (.tuple #[.int .i64 (areaV l), .bool (rightL l)])) w') → Calls Try.prog 30 #[v] W R) at HA
  change Hid (∀ (W : World) (S : Nat → Prop) (u : Value), Rd W S 2 u l.reverse.length (Pts l.reverse) → ∀ (R : Ending → World → Prop), (∀ w', Grow W w' → R (.returned (.tuple #[.int .i64 (areaV l.reverse), .bool (rightL l.reverse)])) w') → Calls Try.prog 30 #[u] W R) at HD
  rw [areaV_rev, rightL_rev] at HD
  have bd := areaV_bd l (by omega)
  clear hR
  obtain ⟨_, A, c, rfl, k1, k2, -, k4⟩ := hb
  unfold maxLen at k2
  generalize sgnI (areaV l) = sg at *
  generalize areaV l = n at *
  generalize rightL l = rt at *
  go_enter Try.func6, Try.ntmps6
  go_wp2
  go_loopw [4, 3] (fun i s wr => ∃ (k m c : Nat) (z : Int) (A : Option Addr), k ≤ l.length ∧ z = (k : Int) - 1 ∧ i = .int .i64 z ∧ s = .slice A m c ∧ Hid (m = l.length - k) ∧ m ≤ l.length ∧ wr.ownsRow w.heap.size 24 2 (.slice A m c) m (Pts (l.drop k).reverse) ∧ Hid (Grow w wr)) (fun i _ _ => (intOf i + 1).toNat)
  case atStart => exact ⟨l.length, 0, 0, (l.length : Int) - 1, none, Nat.le_refl _, rfl, by go_num, rfl, by show 0 = l.length - l.length; omega, Nat.zero_le _, by rw [List.drop_length]; exact World.ownsRow_nil _ _ _ _, Grow.refl _⟩
  case round =>
    obtain ⟨k, m, c, z, A, hk, hz, rfl, rfl, hm, hml, hown, hg⟩ := hrel
    rcases Nat.eq_zero_or_pos k with h0 | h0
    · subst h0
      have hm2 := hm.out
      obtain rfl : m = l.length := by omega
      rw [List.drop_zero] at hown
      have HO := Lib.hid hown
      have HZ := Lib.hid hz
      have hz1 : z = -1 := by omega
      subst hz1
      clear hown hm hm2 hz k4
      have GG := Lib.hid hg.out
      go_wp2_with fail
      refine HA.out _ hg.out _ ?_
      intro w1 hg1
      have G1 := Lib.hid (hg.out.tr hg1)
      have P1 := Lib.hid hg1
      clear hg1
      go_wp2_with fail
      refine HB.out _ G1.out _ ?_
      intro w2 hg2
      have G2 := Lib.hid (G1.out.tr hg2)
      have P2 := Lib.hid (P1.out.tr hg2)
      clear hg2
      have HDr := HD.out w2 _ _ (by rw [List.length_reverse]; exact (Rd.own (own_grow HO.out P2.out)))
      have HDr := Lib.hid HDr
      go_wp2_with fail
      refine HDr.out _ ?_
      intro w3 hg3
      have G3 := Lib.hid (G2.out.tr hg3)
      clear hg3 HDr
      go_wp2_with fail
      refine HS.out _ G3.out _ ?_
      intro w4 hg4
      have G4 := Lib.hid (G3.out.tr hg4)
      clear hg4
      go_wp2_with fail
      refine HT.out _ G4.out _ ?_
      intro w5 hg5
      have G5 := Lib.hid (G4.out.tr hg5)
      clear hg5
      go_wp2_with fail
      refine HV.out _ _ ?_
      intro w6 hg6
      have G6 := Lib.hid (G5.out.tr hg6)
      clear hg6
      go_wp2
      exact HR.out _ G6.out
    · obtain ⟨j, rfl⟩ : ∃ j, k = j + 1 := ⟨k - 1, by omega⟩
      have hlt : j < l.length := by omega
      obtain ⟨b, o, rfl, hS, hc⟩ := k4 (by omega)
      have e1 := flat_cells Pt.cells_len hg.out hS hc hlt
      have HDp : Hid ((l.drop j).reverse = (l.drop (j + 1)).reverse ++ [l[j]'hlt]) := by
        show _ = _
        rw [List.drop_eq_getElem_cons hlt, List.reverse_cons]
      have HO := Lib.hid hown
      obtain rfl : z = (j : Int) := by omega
      clear hc k4 hown hz
      generalize l[j]'hlt = x at *
      obtain ⟨x1, x2⟩ := x
      have y0 : wr.cell? ⟨b, o + j * 2, none⟩ = some (.int .i64 x1) := e1 0 _ rfl
      have y1 : wr.cell? ⟨b, o + j * 2 + 1, none⟩ = some (.int .i64 x2) := e1 1 _ rfl
      clear e1
      go_wp2_with (at_builtin; refine wpList_new rfl _ _ rfl el_pt HO.out rfl 1 _ rfl (by decide) rfl (by simp [Value.oneCell']) (by omega) hg.out ⟨Nat.le_refl _, hg.out.size⟩ ?_; intro v1 w4 hown4 hg4 hgr4 hb4; have HG4 := Lib.hid hg4; have HO4 := Lib.hid hown4; clear hg4 hgr4 hb4 hown4 y0 y1)
      go_roundw
      case rel =>
        obtain ⟨_, A', c', hv, _⟩ := Rd.own HO4.out
        refine ⟨j, m + 1, c', (j : Int) - 1, A', by omega, rfl, by go_num, hv, ?_, ?_, ?_, HG4.out⟩
        · show m + 1 = l.length - j
          have := hm.out; omega
        · have := hm.out; omega
        · rw [← hv]
          exact own_eq HO4.out rfl (by rw [HDp.out, Pts_app]; rfl)
      case measure => simp [intOf] <;> omega
end Go.Proofs.Ythgibnmnjoniiaa
