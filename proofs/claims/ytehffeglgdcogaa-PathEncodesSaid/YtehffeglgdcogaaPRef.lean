/-
  The reference's points (portolanref09).
-/
import Derived.Test.YtehffeglgdcogaaChecked
import Derived.Test.YtehffeglgdcogaaPRdr3
namespace Go.Proofs.Ytehffeglgdcogaa
open Go.RowKit B

theorem ptsS_err : ∀ (n : Nat) (a : Pt) (l : List Int) (e : Int), ptsS n a l = .error e → e = 2 ∨ e = 8
  | 0, a, l, e, h => by simp [ptsS] at h
  | n + 1, a, [], e, h => by simp [ptsS] at h; exact .inl h.symm
  | n + 1, a, [x], e, h => by
    simp only [ptsS] at h
    split at h <;> simp at h <;> simp [← h]
  | n + 1, a, x :: y :: l, e, h => by
    simp only [ptsS] at h
    split at h
    · simp at h; exact .inr h.symm
    · split at h
      · simp at h; exact .inr h.symm
      · cases hq : ptsS n ⟨a.x + zag x, a.y + zag y⟩ l with
        | error e' => rw [hq] at h; simp at h; subst h; exact ptsS_err n _ l _ hq
        | ok q => rw [hq] at h; simp at h

set_option maxRecDepth 100000 in
set_option maxHeartbeats 8000000 in
theorem points9_any (l : List Int) (lv : Value) (i n : Nat) (a : Pt) (S : Nat → Prop) (w : World) (hl : Rd w S 1 lv l.length (U32 l)) (hu : ∀ x ∈ l, 0 ≤ x ∧ x ≤ 4294967295) (ha : Near a) (hlen : l.length ≤ 1000) (hi : i ≤ l.length) (hn : n ≤ 536870912) {R : Ending → World → Prop}
    (hE : ∀ e, ptsS n a (l.drop i) = .error e → ∀ w', Grow w w' → R (.returned (.tuple #[.slice none 0 0, .int .i64 0, .int .i64 e])) w')
    (hR : ∀ ps j, ptsS n a (l.drop i) = .ok (ps, l.drop j) → j ≤ l.length → j = i + 2 * n → ∀ v w', w'.ownsRow w.heap.size 77 2 v ps.length (Pts ps) → Grow w w' → Near (lastPt a ps) → R (.returned (.tuple #[v, .int .i64 j, .int .i64 0])) w') :
    Calls Try.prog 56 #[lv, .int .i64 i, .int .i64 n, .agg #[.int .i64 a.x, .int .i64 a.y]] w R := by
  have HR := Lib.hid hR
  have HE := Lib.hid hE
  have HU := Lib.hid hu
  have HA := Lib.hid ha
  have hl := hl.lt (by decide)
  have HN := Lib.hid hn
  have HLEN := Lib.hid hlen
  have HI := Lib.hid hi
  obtain ⟨_, A, c, rfl, h1, h2, h3, h4⟩ := hl
  unfold maxLen at h2
  clear hR hE hu ha h3 hn hi
  have BX := Lib.hid (BoxH.laid #[.int .i64 a.x, .int .i64 a.y] 77 (Grow.refl w))
  go_enter Try.func56, Try.ntmps56
  go_wp2
  generalize w.alloc (.cells #[.int .i64 a.x, .int .i64 a.y] 77) = wa at *
  go_loopw [1, 11, 12] (fun i' s k' wr => ∃ (m j : Nat) (a' : Pt) (ps : List Pt), m ≤ n ∧ i' = .int .i64 j ∧ k' = .int .i64 m ∧ Hid (BoxH w w.heap.size #[.int .i64 a'.x, .int .i64 a'.y] 77 wr) ∧ Hid (j = i + 2 * m) ∧ j ≤ l.length ∧ Hid (wr.ownsRow (w.heap.size + 1) 77 2 s m (Pts ps)) ∧ Hid (ps.length = m) ∧ Hid (a' = lastPt a ps) ∧ Hid (ptsS n a (l.drop i) = preP ps (ptsS (n - m) a' (l.drop j))) ∧ Hid (Near a')) (fun _ _ k' _ => n - (intOf k').toNat)
  case atStart => exact ⟨0, i, a, [], Nat.zero_le _, rfl, rfl, BX.out, (show i = i + 2 * 0 by omega), HI.out, World.ownsRow_nil _ _ _ _, rfl, (show a = lastPt a [] from rfl), (preP_nil _).symm, HA.out⟩
  case round =>
    clear BX HA
    obtain ⟨m, j, a', ps, hm, rfl, rfl, hB, hj, hjl, hO, hps, ha', hpt, hna⟩ := hrel
    have HJM : Hid (m ≤ l.length) := by show _ ≤ _; have := hj.out; omega
    by_cases hlt : m < n
    · obtain ⟨k', hk'⟩ : ∃ k', n - m = k' + 1 := ⟨n - m - 1, by omega⟩
      have hk2 : n - (m + 1) = k' := by omega
      rw [hk'] at hpt
      obtain ⟨ax, ay⟩ := a'
      by_cases h0 : j < l.length
      · obtain ⟨b, o, rfl, hS, hc⟩ := h4 (by omega)
        have hx := HU.out l[j] (List.getElem_mem h0)
        have C0 : Hid (∀ W, Grow w W → W.cell? ⟨b, o + j, none⟩ = some (.int .u32 l[j])) := fun W hW => (hW.cell (p := ⟨b, o + j, none⟩) hS).trans (hc j _ (U32_at l j h0))
        have H0 := Lib.hid h0
        have PX : Hid (inm (ax + zag l[j]) = false → ptsS (k' + 1) ⟨ax, ay⟩ (l.drop j) = .error 8) := fun h => pts_x (m := k') (a := ⟨ax, ay⟩) h0 h
        have PM : Hid (inm (ax + zag l[j]) = true → l.length ≤ j + 1 → ptsS (k' + 1) ⟨ax, ay⟩ (l.drop j) = .error 2) := fun h1 h2 => pts_mid (m := k') (a := ⟨ax, ay⟩) h0 h1 h2
        have PY : Hid (inm (ax + zag l[j]) = true → ∀ h : j + 1 < l.length, (inm (ay + zag l[j + 1]) = false → ptsS (k' + 1) ⟨ax, ay⟩ (l.drop j) = .error 8) ∧ (inm (ay + zag l[j + 1]) = true → ptsS (k' + 1) ⟨ax, ay⟩ (l.drop j) = preP [⟨ax + zag l[j], ay + zag l[j + 1]⟩] (ptsS k' ⟨ax + zag l[j], ay + zag l[j + 1]⟩ (l.drop (j + 1 + 1))))) := fun h1 h => ⟨fun h2 => pts_y (m := k') (a := ⟨ax, ay⟩) h h1 h2, fun h2 => pts_go (m := k') (a := ⟨ax, ay⟩) h h1 h2⟩
        generalize l[j] = x at *
        have hna2 := hna.out
        obtain ⟨bx, by_⟩ := hna2
        dsimp only at bx by_
        have zb := zag_bd hx
        have HBY := Lib.hid by_
        have ZG := Lib.hid fun W (R : Ending → World → Prop) hR => rzag_any x W (by unfold U64; omega) (R := R) hR
        have PI := Lib.hid fun W (R : Ending → World → Prop) hR => pout_any (ax + zag x) W (R := R) hR
        have ew : IntKind.i64.wrap (ax + zag x) = ax + zag x := IntWalk.i64_in _ (by omega)
        have eu : IntKind.u64.wrap x = x := IntWalk.u64_in _ (by omega)
        have HZ : Hid (ax + zag x = ax + zag x) := rfl
        clear zb hx bx by_
        have CC : Hid (b < w.heap.size) := hS
        go_wp2_with fail
        refine wp_region_lexT (fun W => BoxH w w.heap.size #[.int .i64 ax, .int .i64 ay] 77 W) (hB.out.tr (Grow.refl _).dr) 8 [0, 1, 2, 3, 4, 5, 6, 7] (by kernel_rfl) (by kernel_rfl) (by intro c a d v w h; cases d <;> exact h) ?_
        iterate 7 (apply lext_take; exact rfl; exact rfl; (intro W hW; have y0 := hW.cell 0; have z0 := C0.out _ hW.grow; (try clear hW); go_simp; with_reducible rfl); try simp only [Act.put, List.setIfInBounds_toArray, List.set_cons_zero, List.set_cons_succ])
        have GG := Lib.hid (show BoxH w w.heap.size #[.int .i64 ax, .int .i64 ay] 77 wr.drew from hB.out.tr (Grow.refl _).dr)
        apply lext_turn; exact rfl; exact rfl; exact rfl; intro K hK; go_simp; go_at_call 20; refine ZG.out _ _ ?_; refine hK.out _ _ GG.out ?_; clear hK
        try simp only [Act.put, List.setIfInBounds_toArray, List.set_cons_zero, List.set_cons_succ]
        have OO := Lib.hid (own_grow hO.out (Grow.refl _).dr)
        clear hO hB
        generalize wr.drew = wd at *
        refine lext_nil ?_
        simp only [List.drop_succ_cons, List.drop_zero]
        have y0 := GG.out.cell 0
        have f0 := GG.out.free 0
        have B2 := Lib.hid (GG.out.set 0 (.int .i64 (ax + zag x)))
        have d0 := B2.out.cell 0
        go_wp2_with fail
        go_at_call 60
        refine PI.out _ _ ?_
        cases hi : inm (ax + zag x) with
        | false =>
          have P0 : Hid (ptsS n a (l.drop i) = .error 8) := by show _ = _; rw [hpt.out, PX.out hi]; rfl
          clear hi
          go_wp2
          exact HE.out 8 P0.out _ B2.out.grow
        | true =>
          have PM2 := Lib.hid (PM.out hi)
          have PY2 := Lib.hid (PY.out hi)
          have HI := Lib.hid hi
          clear hi y0 f0 d0 PM PY PX PI ZG
          by_cases h5 : j + 1 < l.length
          · have t2 : decide ((l.length : Int) ≤ (j : Int) + 1) = false := decide_eq_false (by omega)
            have ewj : IntKind.i64.wrap ((j : Int) + 1) = (j : Int) + 1 := IntWalk.i64_in _ (by omega)
            have hx5 := HU.out l[j + 1] (List.getElem_mem h5)
            have C5 : Hid (∀ W, Grow w W → W.cell? ⟨b, o + (j + 1), none⟩ = some (.int .u32 l[j + 1])) := fun W hW => (hW.cell (p := ⟨b, o + (j + 1), none⟩) CC.out).trans (hc (j + 1) _ (U32_at l (j + 1) h5))
            have PY3 := Lib.hid (PY2.out h5)
            clear PY2 PM2 C0 HZ ew eu
            generalize l[j + 1] = y at *
            have zb := zag_bd hx5
            have by5 := HBY.out
            have ZG := Lib.hid fun W (R : Ending → World → Prop) hR => rzag_any y W (by unfold U64; omega) (R := R) hR
            have PI := Lib.hid fun W (R : Ending → World → Prop) hR => pout_any (ay + zag y) W (R := R) hR
            have ew : IntKind.i64.wrap (ay + zag y) = ay + zag y := IntWalk.i64_in _ (by omega)
            have eu : IntKind.u64.wrap y = y := IntWalk.u64_in _ (by omega)
            have NE : Hid (u11.ownBlock ≠ some w.heap.size) := fun e => by have := (OO.out.lt _ e).1; omega
            have O2 := Lib.hid (own_set (j := 0) (u := .int .i64 (ax + zag x)) OO.out NE.out)
            clear zb by5 hx5 OO GG
            obtain ⟨X, hX⟩ : ∃ X, ax + zag x = X := ⟨_, rfl⟩
            simp only [hX] at *
            have HX := Lib.hid hX
            clear hX
            have B3 : Hid (BoxH w w.heap.size #[.int .i64 X, .int .i64 ay] 77 (wd.setCell ⟨w.heap.size, 0, none⟩ (.int .i64 X))) := B2.out
            clear B2
            generalize wd.setCell ⟨w.heap.size, 0, none⟩ (.int .i64 X) = we at *
            go_wp2_with fail
            clear t2
            refine wp_region_lexT (fun W => BoxH w w.heap.size #[.int .i64 X, .int .i64 ay] 77 W) (B3.out.tr (Grow.refl _).dr) 9 [0, 1, 2, 3, 4, 5, 6, 7, 8] (by kernel_rfl) (by kernel_rfl) (by intro c a d v w h; cases d <;> exact h) ?_
            iterate 8 (apply lext_take; exact rfl; exact rfl; (intro W hW; have y0 := hW.cell 1; have z0 := C5.out _ hW.grow; have e6 : (0 : Int) ≤ (j : Int) + 1 := (by omega); have e7 : (j : Int) + 1 < (l.length : Int) := (by omega); (try clear hW); go_simp; with_reducible rfl); try simp only [Act.put, List.setIfInBounds_toArray, List.set_cons_zero, List.set_cons_succ])
            have GG := Lib.hid (show BoxH w w.heap.size #[.int .i64 X, .int .i64 ay] 77 we.drew from B3.out.tr (Grow.refl _).dr)
            apply lext_turn; exact rfl; exact rfl; exact rfl; intro K hK; go_simp; go_at_call 20; refine ZG.out _ _ ?_; refine hK.out _ _ GG.out ?_; clear hK
            try simp only [Act.put, List.setIfInBounds_toArray, List.set_cons_zero, List.set_cons_succ]
            have OO := Lib.hid (own_grow O2.out (Grow.refl _).dr)
            clear O2 B3
            generalize we.drew = wf at *
            refine lext_nil ?_
            simp only [List.drop_succ_cons, List.drop_zero]
            have y0 := GG.out.cell 1
            have f0 := GG.out.free 1
            have B6 := Lib.hid (GG.out.set 1 (.int .i64 (ay + zag y)))
            have d0 := B6.out.cell 1
            have e0 := B6.out.cell 0
            have O6 := Lib.hid (own_set (j := 1) (u := .int .i64 (ay + zag y)) OO.out NE.out)
            go_wp2_with fail
            go_at_call 60
            refine PI.out _ _ ?_
            cases hi2 : inm (ay + zag y) with
            | false =>
              have P0 : Hid (ptsS n a (l.drop i) = .error 8) := by show _ = _; rw [hpt.out, PY3.out.1 hi2]; rfl
              clear hi2
              go_wp2
              exact HE.out 8 P0.out _ B6.out.grow
            | true =>
              have P6 := Lib.hid (PY3.out.2 hi2)
              have HI2 := Lib.hid hi2
              clear hi2 PY3 ZG PI
              have hnn := HN.out
              have ewj2 : IntKind.i64.wrap ((j : Int) + 2) = (j : Int) + 2 := IntWalk.i64_in _ (by omega)
              have HW0 : Hid (w.heap.size ≤ (wf.setCell ⟨w.heap.size, 1, none⟩ (.int .i64 (ay + zag y))).heap.size) := B6.out.grow.size
              have HW1 : Hid (w.heap.size + 1 ≤ (wf.setCell ⟨w.heap.size, 1, none⟩ (.int .i64 (ay + zag y))).heap.size) := B6.out.lt
              go_wp2_with (at_builtin; refine wpList_newAt (w0 := w) rfl _ _ rfl el_pt O6.out rfl 1 _ (size_setCell _ _ _) _ rfl (by decide) rfl (by simp [Value.oneCell']) (by have := HLEN.out; have := HJM.out; omega) B6.out.grow ⟨Nat.le_succ _, HW1.out⟩ ?_; intro v7 w7 hown7 hg7 hgr7 hb7; have O7 := Lib.hid hown7; have B7 := Lib.hid (B6.out.by_ hgr7 (fun k hk => by have := own_ge O6.out k hk; omega) (fun e => NE.out e.symm)); clear hown7 hg7 hgr7 hb7)
              go_roundw
              case rel =>
                refine ⟨m + 1, j + 1 + 1, ⟨X, ay + zag y⟩, ps ++ [⟨X, ay + zag y⟩], by omega, by rw [show ((j + 1 + 1 : Nat) : Int) = (j : Int) + 2 by omega], by go_num, B7.out, (by have := hj.out; omega : j + 1 + 1 = i + 2 * (m + 1)), by omega, own_eq O7.out rfl (by simp [Pts, Pt.cells]), ?_, ?_, ?_, ?_⟩
                · show _ = _
                  rw [List.length_append, hps.out]; rfl
                · exact (lastPt_snoc _ _ _).symm
                · show _ = _
                  rw [hk2, hpt.out, P6.out, preP_app]
                · exact ⟨inm_iff.1 HI.out, inm_iff.1 HI2.out⟩
              case measure => simp [intOf]; omega
          · have P0 : Hid (ptsS n a (l.drop i) = .error 2) := by show _ = _; rw [hpt.out, PM2.out (by omega)]; rfl
            have t2 : decide ((l.length : Int) ≤ (j : Int) + 1) = true := decide_eq_true (by omega)
            clear h5
            go_wp2
            exact HE.out 2 P0.out _ B2.out.grow
      · have P0 : Hid (ptsS n a (l.drop i) = .error 2) := by show _ = _; rw [hpt.out, pts_end (by omega)]; rfl
        go_wp2
        exact HE.out 2 P0.out _ hB.out.grow
    · obtain rfl : m = n := by omega
      have hpt2 := hpt.out
      rw [Nat.sub_self] at hpt2
      have hlen2 := hps.out
      subst hlen2
      have ha2 := ha'.out
      subst ha2
      go_wp2
      exact HR.out ps j (by rw [hpt2]; simp [ptsS, preP]) hjl hj.out _ _ (own_base hO.out (Nat.le_succ _)) hB.out.grow hna.out
end Go.Proofs.Ytehffeglgdcogaa
