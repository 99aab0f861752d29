import Derived.Test.YthgibnmnjoniiaaRGroups
namespace Go.Proofs.Ythgibnmnjoniiaa
open Go.RowKit B

theorem Grp.rowcell {W W' : World} {base m g c : Nat} {rows : List IRow} (h : Grp W base (.slice (some ⟨g, 0, none⟩) m c) m rows) (hg : Grow W W') {k : Nat} (hk : k < rows.length) : W'.cell? ⟨g, k, none⟩ = some (rows[k]'hk).v := by
  have := rd_cell hg (Rd.own h.out) rfl (i := k) (by simpa using hk)
  rw [Nat.zero_add] at this
  rw [this, List.getElem_map]
theorem Grp.form {W : World} {base m : Nat} {s : Value} {rows : List IRow} (h : Grp W base s m rows) {r : IRow} (hr : r ∈ rows) : ∃ g c, r.v = .slice (some ⟨g, 0, none⟩) r.l.length c ∧ r.l.length ≤ c ∧ c ≤ maxLen := by
  obtain ⟨h1, h2, _⟩ := h.each r hr
  rcases h1.2 with ⟨h0, _⟩ | ⟨g, cap, _, hv, _, _, k1, k2, _⟩
  · rw [h0] at h2; exact absurd rfl h2
  · exact ⟨g, cap, hv, k1, k2⟩
theorem Grp.numcell {W W' : World} {base m g c : Nat} {s : Value} {rows : List IRow} (h : Grp W base s m rows) (hg : Grow W W') {r : IRow} (hr : r ∈ rows) (hv : r.v = .slice (some ⟨g, 0, none⟩) r.l.length c) {j : Nat} (hj : j < r.l.length) : W'.cell? ⟨g, j, none⟩ = some (.int .i64 (r.l[j]'hj : Nat)) := by
  have := rd_cell hg (Rd.own (h.each _ hr).1) hv (i := j) (by simpa [Ns] using hj)
  rw [Nat.zero_add] at this
  rw [this]
  simp [Ns]

set_option maxRecDepth 100000 in
set_option maxHeartbeats 8000000 in
theorem windGroups_walk (ps : List PRow) (a : Value) (S S' : Nat → Prop) (w : World) (ha : Rd w S 1 a ps.length (ps.map PRow.v)) (hA : ∀ r ∈ ps, r.rd w S' ∧ ∀ s ∈ r.l, s.ok) {R : Ending → World → Prop}
    (hR : ∀ w', Grow w w' → R (.returned (.bool true)) w') :
    Calls Try.prog 8 #[a] w R := by
  have HR := Lib.hid hR
  have HV := Lib.hid (fun W (R : Ending → World → Prop) hR => live27_any W (R := R) hR)
  clear hR
  have ha := ha.lt (by decide)
  have HA0 := Lib.hid ha
  have HA := Lib.hid hA
  clear hA
  have HGA : Hid (ps.length ≤ 30 → ∀ (R : Ending → World → Prop), (∀ s rows w', Grp w' w.heap.size s rows.length rows → rows.map IRow.l = (groupsAt (sgAt ps) ps.length).1 → Grow w w' → R (.returned (.tuple #[s, .bool (decide (0 < rows.length))])) w') → Calls Try.prog 36 #[a] w R) := by
    intro h R hR
    exact groups_any ps a _ S' w HA0.out (fun r hr => (HA.out r hr).1) (by omega) hR
  have HGB : Hid (ps.length ≤ 30 → ∀ (W : World), Grow w W → ∀ (R : Ending → World → Prop), (∀ s rows w', Grp w' W.heap.size s rows.length rows → rows.map IRow.l = (groupsAt (sgAt ps) ps.length).1 → Grow W w' → R (.returned (.tuple #[s, .bool (decide (0 < rows.length))])) w') → Calls Try.prog 37 #[a] W R) := by
    intro h W hW R hR
    exact rgroups_any ps a _ S' W (HA0.out.gr2 (by decide) hW) (fun r hr => (HA.out r hr).1.gr2 (by decide) hW) (by omega) hR
  generalize (groupsAt (sgAt ps) ps.length).1 = G at *
  obtain ⟨_, A, c, rfl, h1, h2, h3, h4⟩ := ha
  unfold maxLen at h2
  by_cases h30 : 30 < ps.length
  · go_enter Try.func8, Try.ntmps8
    go_wp2_with (go_at_call 15; refine HV.out _ _ ?_; intro w1 hg1)
    exact HR.out _ hg1
  have h30' : ps.length ≤ 30 := by omega
  have HGA := Lib.hid (HGA.out h30')
  have HGB := Lib.hid (HGB.out h30')
  go_enter Try.func8, Try.ntmps8
  go_wp2
  go_loopw [3] (fun i wr => ∃ (k : Nat), k ≤ ps.length ∧ i = .int .i64 k ∧ wr = w) (fun i _ => ps.length - (intOf i).toNat)
  case atStart => exact ⟨0, Nat.zero_le _, rfl, rfl⟩
  case round =>
    obtain ⟨k, hk, rfl, rfl⟩ := hrel
    by_cases hlt : k < ps.length
    · obtain ⟨b, o, rfl, -, -⟩ := h4 (by omega)
      have c1 : wr.cell? ⟨b, o + k, none⟩ = some (ps[k]'hlt).v := by
        have := rd_cell (Grow.refl wr) HA0.out rfl (i := k) (by simpa using hlt)
        rw [List.getElem_map] at this
        exact this
      obtain ⟨_, A2, c2, e2, x1, x2, -, -⟩ := (HA.out (ps[k]'hlt) (List.getElem_mem hlt)).1
      rw [e2] at c1
      unfold maxLen at x2
      clear h3 h4 e2
      generalize (ps[k]'hlt).l.length = n at *
      by_cases h50 : 50 < n
      · go_wp2_with (go_at_call 15; refine HV.out _ _ ?_; intro w1 hg1)
        exact HR.out _ hg1
      · go_wp2
        go_roundw
        case rel => exact ⟨k + 1, by omega, by go_num, by first | rfl | trivial⟩
        case measure => simp [intOf]; omega
    · obtain rfl : k = ps.length := by omega
      clear h3 h4
      go_wp2_with fail
      refine HGA.out _ ?_
      intro s1 rows1 w1 g1 e1 hg1
      have G1 := Lib.hid hg1
      have R1 := Lib.hid g1
      have E1 := Lib.hid e1
      obtain ⟨B1, c3, rfl⟩ := own_slice g1.out
      clear hg1 g1 e1
      go_wp2_with fail
      refine HGB.out _ G1.out _ ?_
      intro s2 rows2 w2 g2 e2 hg2
      have G2 := Lib.hid (G1.out.tr hg2)
      have R1 := Lib.hid (R1.out.grow hg2)
      have EL : Hid (rows1.map IRow.l = rows2.map IRow.l) := by show _ = _; rw [E1.out, e2]
      have hlen : rows1.length = rows2.length := by have := congrArg List.length EL.out; simpa using this
      have R2 : Hid (Grp w2 w1.heap.size s2 rows1.length rows2) := by show Grp _ _ _ _ _; rw [hlen]; exact g2
      rw [← hlen]
      have HLE := Lib.hid hlen
      clear hg2 g2 e2 E1 hlen
      obtain ⟨B2, c4, rfl⟩ := own_slice R2.out.out
      have hcap : rows1.length ≤ c3 ∧ c3 ≤ maxLen ∧ c4 ≤ maxLen := by
        obtain ⟨_, _, _, e, k1, k2, _⟩ := Rd.own R1.out.out
        obtain ⟨_, _, _, f, _, l2, _⟩ := Rd.own R2.out.out
        injection e with _ _ e
        injection f with _ _ f
        subst e f
        exact ⟨k1, k2, l2⟩
      unfold maxLen at hcap
      have EK : Hid (∀ k (h1 : k < rows1.length) (h2 : k < rows2.length), (rows1[k]'h1).l = (rows2[k]'h2).l) := by
        intro k h1 h2
        have a1 : (rows1.map IRow.l)[k]? = (rows2.map IRow.l)[k]? := by rw [EL.out]
        simpa [h1, h2] using a1
      clear EL
      go_wp2
      go_loopw [8] (fun i wr => ∃ (k : Nat), k ≤ rows1.length ∧ i = .int .i64 k ∧ Hid (Grow w2 wr)) (fun i _ => rows1.length - (intOf i).toNat)
      case atStart => exact ⟨0, Nat.zero_le _, rfl, Grow.refl _⟩
      case round =>
        obtain ⟨k, hk, rfl, hg⟩ := hrel
        by_cases hlt : k < rows1.length
        · obtain ⟨g1, c3', e1⟩ := own_form R1.out.out (by omega)
          obtain ⟨g2, c4', e2⟩ := own_form R2.out.out (by omega)
          injection e1 with e1 _ e1'
          injection e2 with e2 _ e2'
          subst e1 e2 e1' e2'
          have hlt2 : k < rows2.length := by have := HLE.out; omega
          have d1 := fun W (h : Grow w2 W) => R1.out.rowcell h hlt
          have d2 := fun W (h : Grow w2 W) => R2.out.rowcell h hlt2
          obtain ⟨b1, c5, f1, x1, x2⟩ := R1.out.form (List.getElem_mem hlt)
          obtain ⟨b2, c6, f2, y1, y2⟩ := R2.out.form (List.getElem_mem hlt2)
          have n1 := fun W (h : Grow w2 W) j (hj : j < (rows1[k]'hlt).l.length) => R1.out.numcell h (List.getElem_mem hlt) f1 hj
          have n2 := fun W (h : Grow w2 W) j (hj : j < (rows2[k]'hlt2).l.length) => R2.out.numcell h (List.getElem_mem hlt2) f2 hj
          rw [f1] at d1
          rw [f2] at d2
          have he := EK.out k hlt hlt2
          generalize (rows1[k]'hlt).l = L at *
          generalize (rows2[k]'hlt2).l = L2 at *
          subst he
          clear f1 f2
          unfold maxLen at x2 y2
          have D : Hid (∀ W, Grow w2 W → W.cell? ⟨g1, k, none⟩ = some (.slice (some ⟨b1, 0, none⟩) L.length c5) ∧ W.cell? ⟨g2, k, none⟩ = some (.slice (some ⟨b2, 0, none⟩) L.length c6)) := fun W h => ⟨d1 W h, d2 W h⟩
          have N : Hid (∀ W, Grow w2 W → ∀ j (hj : j < L.length), W.cell? ⟨b1, j, none⟩ = some (.int .i64 (L[j]'hj : Nat)) ∧ W.cell? ⟨b2, j, none⟩ = some (.int .i64 (L[j]'hj : Nat))) := fun W h j hj => ⟨n1 W h j hj, n2 W h j hj⟩
          clear d1 d2 n1 n2
          go_wp2
          refine wp_region_lexG (Grow w2) (hg.out.dr) [0, 1, 2, 3, 4, 5, 6, 7, 8, 9, 10] (by kernel_rfl) (by kernel_rfl) rfl (by kernel_rfl) (by intro c a d v w h; cases d <;> exact h) ?_
          iterate 11 (refine lexg_take (v := ?_) rfl ?_ ?_ ?_; rotate_left; (rfl); (intro W hW; obtain ⟨y1, y2⟩ := D.out W hW; (try clear hW); go_simp; with_reducible rfl); try simp only [Act.put, List.setIfInBounds_toArray, List.set_cons_zero, List.set_cons_succ])
          refine lex_nil ?_
          go_wp2
          go_loopw [9] (fun i wz => ∃ (j : Nat), j ≤ L.length ∧ i = .int .i64 j ∧ Hid (Grow w2 wz)) (fun i _ => L.length - (intOf i).toNat)
          case atStart => exact ⟨0, Nat.zero_le _, rfl, hg.out.dr⟩
          case round =>
            obtain ⟨j, hj, rfl, hz⟩ := hrel
            obtain ⟨t1, t2⟩ := D.out _ hz.out
            by_cases hjl : j < L.length
            · have NN := Lib.hid (fun W h => N.out W h j hjl)
              generalize L[j]'hjl = q at *
              go_wp2
              refine wp_region_lexG (Grow w2) (hz.out.dr) [0, 1, 2, 3, 4, 5, 6, 7, 8, 9, 10, 11, 12, 13, 14] (by kernel_rfl) (by kernel_rfl) rfl (by kernel_rfl) (by intro c a d v w h; cases d <;> exact h) ?_
              iterate 15 (refine lexg_take (v := ?_) rfl ?_ ?_ ?_; rotate_left; (rfl); (intro W hW; obtain ⟨y1, y2⟩ := D.out W hW; obtain ⟨y3, y4⟩ := NN.out W hW; (try clear hW); go_simp; with_reducible rfl); try simp only [Act.put, List.setIfInBounds_toArray, List.set_cons_zero, List.set_cons_succ])
              refine lex_nil ?_
              go_wp2
              go_roundw
              case rel => exact ⟨j + 1, by omega, by go_num, hz.out.dr⟩
              case measure => simp [intOf]; omega
            · obtain rfl : j = L.length := by omega
              go_wp2
              go_roundw
              case rel => exact ⟨k + 1, by omega, by go_num, hz.out⟩
              case measure => simp [intOf]; omega
        · obtain rfl : k = rows1.length := by omega
          go_wp2_with (go_at_call 15; refine HV.out _ _ ?_; intro w4 hg4)
          exact HR.out _ (G2.out.tr (hg.out.tr hg4))
end Go.Proofs.Ythgibnmnjoniiaa
