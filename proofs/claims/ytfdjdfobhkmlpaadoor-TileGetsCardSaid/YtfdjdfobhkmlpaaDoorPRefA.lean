/-
  The reference's points (portolanref09). The reference's Decode (portolanref09): points. The reference's Decode (portolanref09): lines and polygons.
-/
import Derived.Test.YtfdjdfobhkmlpaaDoorChecked
import Derived.Test.YtfdjdfobhkmlpaaDoorPDecA
namespace Go.Proofs.YtfdjdfobhkmlpaaDoor
open Go.RowKit B

theorem ptsS_err : ∀ (n : Nat) (a : Pt) (l : List Int) (e : Int), ptsS n a l = .error e → e = 2 ∨ e = 8
  | 0, a, l, e, h => by simp [ptsS] at h
  | n + 1, a, [], e, h => by simp [ptsS] at h; exact .inl h.symm
  | n + 1, a, [x], e, h => by
    simp only [ptsS] at h
    split at h <;> simp at h <;> simp [← h]
  | n + 1, a, x :: y :: l, e, h => by
    simp only [ptsS] at h
    split at h
    · simp at h; exact .inr h.symm
    · split at h
      · simp at h; exact .inr h.symm
      · cases hq : ptsS n ⟨a.x + zag x, a.y + zag y⟩ l with
        | error e' => rw [hq] at h; simp at h; subst h; exact ptsS_err n _ l _ hq
        | ok q => rw [hq] at h; simp at h

set_option maxRecDepth 100000 in
set_option maxHeartbeats 8000000 in
theorem points9_any (l : List Int) (lv : Value) (i n : Nat) (a : Pt) (S : Nat → Prop) (w : World) (hl : Rd w S 1 lv l.length (U32 l)) (hu : ∀ x ∈ l, 0 ≤ x ∧ x ≤ 4294967295) (ha : Near a) (hlen : l.length ≤ 1000) (hi : i ≤ l.length) (hn : n ≤ 536870912) {R : Ending → World → Prop}
    (hE : ∀ e, ptsS n a (l.drop i) = .error e → ∀ w', Grow w w' → R (.returned (.tuple #[.slice none 0 0, .int .i64 0, .int .i64 e])) w')
    (hR : ∀ ps j, ptsS n a (l.drop i) = .ok (ps, l.drop j) → j ≤ l.length → j = i + 2 * n → ∀ v w', w'.ownsRow w.heap.size 137 2 v ps.length (Pts ps) → Grow w w' → Near (lastPt a ps) → R (.returned (.tuple #[v, .int .i64 j, .int .i64 0])) w') :
    Calls Tryd.prog 102 #[lv, .int .i64 i, .int .i64 n, .agg #[.int .i64 a.x, .int .i64 a.y]] w R := by
  have HR := Lib.hid hR
  have HE := Lib.hid hE
  have HU := Lib.hid hu
  have HA := Lib.hid ha
  have hl := hl.lt (by decide)
  have HN := Lib.hid hn
  have HLEN := Lib.hid hlen
  have HI := Lib.hid hi
  obtain ⟨_, A, c, rfl, h1, h2, h3, h4⟩ := hl
  unfold maxLen at h2
  clear hR hE hu ha h3 hn hi
  have BX := Lib.hid (BoxH.laid #[.int .i64 a.x, .int .i64 a.y] 137 (Grow.refl w))
  go_enter Tryd.func102, Tryd.ntmps102
  go_wp2
  generalize w.alloc (.cells #[.int .i64 a.x, .int .i64 a.y] 137) = wa at *
  go_loopw [1, 11, 12] (fun i' s k' wr => ∃ (m j : Nat) (a' : Pt) (ps : List Pt), m ≤ n ∧ i' = .int .i64 j ∧ k' = .int .i64 m ∧ Hid (BoxH w w.heap.size #[.int .i64 a'.x, .int .i64 a'.y] 137 wr) ∧ Hid (j = i + 2 * m) ∧ j ≤ l.length ∧ Hid (wr.ownsRow (w.heap.size + 1) 137 2 s m (Pts ps)) ∧ Hid (ps.length = m) ∧ Hid (a' = lastPt a ps) ∧ Hid (ptsS n a (l.drop i) = preP ps (ptsS (n - m) a' (l.drop j))) ∧ Hid (Near a')) (fun _ _ k' _ => n - (intOf k').toNat)
  case atStart => exact ⟨0, i, a, [], Nat.zero_le _, rfl, rfl, BX.out, (show i = i + 2 * 0 by omega), HI.out, World.ownsRow_nil _ _ _ _, rfl, (show a = lastPt a [] from rfl), (preP_nil _).symm, HA.out⟩
  case round =>
    clear BX HA
    obtain ⟨m, j, a', ps, hm, rfl, rfl, hB, hj, hjl, hO, hps, ha', hpt, hna⟩ := hrel
    have HJM : Hid (m ≤ l.length) := by show _ ≤ _; have := hj.out; omega
    by_cases hlt : m < n
    · obtain ⟨k', hk'⟩ : ∃ k', n - m = k' + 1 := ⟨n - m - 1, by omega⟩
      have hk2 : n - (m + 1) = k' := by omega
      rw [hk'] at hpt
      obtain ⟨ax, ay⟩ := a'
      by_cases h0 : j < l.length
      · obtain ⟨b, o, rfl, hS, hc⟩ := h4 (by omega)
        have hx := HU.out l[j] (List.getElem_mem h0)
        have C0 : Hid (∀ W, Grow w W → W.cell? ⟨b, o + j, none⟩ = some (.int .u32 l[j])) := fun W hW => (hW.cell (p := ⟨b, o + j, none⟩) hS).trans (hc j _ (U32_at l j h0))
        have H0 := Lib.hid h0
        have PX : Hid (inm (ax + zag l[j]) = false → ptsS (k' + 1) ⟨ax, ay⟩ (l.drop j) = .error 8) := fun h => pts_x (m := k') (a := ⟨ax, ay⟩) h0 h
        have PM : Hid (inm (ax + zag l[j]) = true → l.length ≤ j + 1 → ptsS (k' + 1) ⟨ax, ay⟩ (l.drop j) = .error 2) := fun h1 h2 => pts_mid (m := k') (a := ⟨ax, ay⟩) h0 h1 h2
        have PY : Hid (inm (ax + zag l[j]) = true → ∀ h : j + 1 < l.length, (inm (ay + zag l[j + 1]) = false → ptsS (k' + 1) ⟨ax, ay⟩ (l.drop j) = .error 8) ∧ (inm (ay + zag l[j + 1]) = true → ptsS (k' + 1) ⟨ax, ay⟩ (l.drop j) = preP [⟨ax + zag l[j], ay + zag l[j + 1]⟩] (ptsS k' ⟨ax + zag l[j], ay + zag l[j + 1]⟩ (l.drop (j + 1 + 1))))) := fun h1 h => ⟨fun h2 => pts_y (m := k') (a := ⟨ax, ay⟩) h h1 h2, fun h2 => pts_go (m := k') (a := ⟨ax, ay⟩) h h1 h2⟩
        generalize l[j] = x at *
        have hna2 := hna.out
        obtain ⟨bx, by_⟩ := hna2
        dsimp only at bx by_
        have zb := zag_bd hx
        have HBY := Lib.hid by_
        have ZG := Lib.hid fun W (R : Ending → World → Prop) hR => rzag_any x W (by unfold U64; omega) (R := R) hR
        have PI := Lib.hid fun W (R : Ending → World → Prop) hR => pout_any (ax + zag x) W (R := R) hR
        have ew : IntKind.i64.wrap (ax + zag x) = ax + zag x := IntWalk.i64_in _ (by omega)
        have eu : IntKind.u64.wrap x = x := IntWalk.u64_in _ (by omega)
        have HZ : Hid (ax + zag x = ax + zag x) := rfl
        clear zb hx bx by_
        have CC : Hid (b < w.heap.size) := hS
        go_wp2_with fail
        refine wp_region_lexT (fun W => BoxH w w.heap.size #[.int .i64 ax, .int .i64 ay] 137 W) (hB.out.tr (Grow.refl _).dr) 8 [0, 1, 2, 3, 4, 5, 6, 7] (by kernel_rfl) (by kernel_rfl) (by intro c a d v w h; cases d <;> exact h) ?_
        iterate 7 (apply lext_take; exact rfl; exact rfl; (intro W hW; have y0 := hW.cell 0; have z0 := C0.out _ hW.grow; (try clear hW); go_simp; with_reducible rfl); try simp only [Act.put, List.setIfInBounds_toArray, List.set_cons_zero, List.set_cons_succ])
        have GG := Lib.hid (show BoxH w w.heap.size #[.int .i64 ax, .int .i64 ay] 137 wr.drew from hB.out.tr (Grow.refl _).dr)
        apply lext_turn; exact rfl; exact rfl; exact rfl; intro K hK; go_simp; go_at_call 95; refine ZG.out _ _ ?_; refine hK.out _ _ GG.out ?_; clear hK
        try simp only [Act.put, List.setIfInBounds_toArray, List.set_cons_zero, List.set_cons_succ]
        have OO := Lib.hid (own_grow hO.out (Grow.refl _).dr)
        clear hO hB
        generalize wr.drew = wd at *
        refine lext_nil ?_
        simp only [List.drop_succ_cons, List.drop_zero]
        have y0 := GG.out.cell 0
        have f0 := GG.out.free 0
        have B2 := Lib.hid (GG.out.set 0 (.int .i64 (ax + zag x)))
        have d0 := B2.out.cell 0
        go_wp2_with fail
        go_at_call 89
        refine PI.out _ _ ?_
        cases hi : inm (ax + zag x) with
        | false =>
          have P0 : Hid (ptsS n a (l.drop i) = .error 8) := by show _ = _; rw [hpt.out, PX.out hi]; rfl
          clear hi
          go_wp2
          exact HE.out 8 P0.out _ B2.out.grow
        | true =>
          have PM2 := Lib.hid (PM.out hi)
          have PY2 := Lib.hid (PY.out hi)
          have HI := Lib.hid hi
          clear hi y0 f0 d0 PM PY PX PI ZG
          by_cases h5 : j + 1 < l.length
          · have t2 : decide ((l.length : Int) ≤ (j : Int) + 1) = false := decide_eq_false (by omega)
            have ewj : IntKind.i64.wrap ((j : Int) + 1) = (j : Int) + 1 := IntWalk.i64_in _ (by omega)
            have hx5 := HU.out l[j + 1] (List.getElem_mem h5)
            have C5 : Hid (∀ W, Grow w W → W.cell? ⟨b, o + (j + 1), none⟩ = some (.int .u32 l[j + 1])) := fun W hW => (hW.cell (p := ⟨b, o + (j + 1), none⟩) CC.out).trans (hc (j + 1) _ (U32_at l (j + 1) h5))
            have PY3 := Lib.hid (PY2.out h5)
            clear PY2 PM2 C0 HZ ew eu
            generalize l[j + 1] = y at *
            have zb := zag_bd hx5
            have by5 := HBY.out
            have ZG := Lib.hid fun W (R : Ending → World → Prop) hR => rzag_any y W (by unfold U64; omega) (R := R) hR
            have PI := Lib.hid fun W (R : Ending → World → Prop) hR => pout_any (ay + zag y) W (R := R) hR
            have ew : IntKind.i64.wrap (ay + zag y) = ay + zag y := IntWalk.i64_in _ (by omega)
            have eu : IntKind.u64.wrap y = y := IntWalk.u64_in _ (by omega)
            have NE : Hid (u11.ownBlock ≠ some w.heap.size) := fun e => by have := (OO.out.lt _ e).1; omega
            have O2 := Lib.hid (own_set (j := 0) (u := .int .i64 (ax + zag x)) OO.out NE.out)
            clear zb by5 hx5 OO GG
            obtain ⟨X, hX⟩ : ∃ X, ax + zag x = X := ⟨_, rfl⟩
            simp only [hX] at *
            have HX := Lib.hid hX
            clear hX
            have B3 : Hid (BoxH w w.heap.size #[.int .i64 X, .int .i64 ay] 137 (wd.setCell ⟨w.heap.size, 0, none⟩ (.int .i64 X))) := B2.out
            clear B2
            generalize wd.setCell ⟨w.heap.size, 0, none⟩ (.int .i64 X) = we at *
            go_wp2_with fail
            clear t2
            refine wp_region_lexT (fun W => BoxH w w.heap.size #[.int .i64 X, .int .i64 ay] 137 W) (B3.out.tr (Grow.refl _).dr) 9 [0, 1, 2, 3, 4, 5, 6, 7, 8] (by kernel_rfl) (by kernel_rfl) (by intro c a d v w h; cases d <;> exact h) ?_
            iterate 8 (apply lext_take; exact rfl; exact rfl; (intro W hW; have y0 := hW.cell 1; have z0 := C5.out _ hW.grow; have e6 : (0 : Int) ≤ (j : Int) + 1 := (by omega); have e7 : (j : Int) + 1 < (l.length : Int) := (by omega); (try clear hW); go_simp; with_reducible rfl); try simp only [Act.put, List.setIfInBounds_toArray, List.set_cons_zero, List.set_cons_succ])
            have GG := Lib.hid (show BoxH w w.heap.size #[.int .i64 X, .int .i64 ay] 137 we.drew from B3.out.tr (Grow.refl _).dr)
            apply lext_turn; exact rfl; exact rfl; exact rfl; intro K hK; go_simp; go_at_call 95; refine ZG.out _ _ ?_; refine hK.out _ _ GG.out ?_; clear hK
            try simp only [Act.put, List.setIfInBounds_toArray, List.set_cons_zero, List.set_cons_succ]
            have OO := Lib.hid (own_grow O2.out (Grow.refl _).dr)
            clear O2 B3
            generalize we.drew = wf at *
            refine lext_nil ?_
            simp only [List.drop_succ_cons, List.drop_zero]
            have y0 := GG.out.cell 1
            have f0 := GG.out.free 1
            have B6 := Lib.hid (GG.out.set 1 (.int .i64 (ay + zag y)))
            have d0 := B6.out.cell 1
            have e0 := B6.out.cell 0
            have O6 := Lib.hid (own_set (j := 1) (u := .int .i64 (ay + zag y)) OO.out NE.out)
            go_wp2_with fail
            go_at_call 89
            refine PI.out _ _ ?_
            cases hi2 : inm (ay + zag y) with
            | false =>
              have P0 : Hid (ptsS n a (l.drop i) = .error 8) := by show _ = _; rw [hpt.out, PY3.out.1 hi2]; rfl
              clear hi2
              go_wp2
              exact HE.out 8 P0.out _ B6.out.grow
            | true =>
              have P6 := Lib.hid (PY3.out.2 hi2)
              have HI2 := Lib.hid hi2
              clear hi2 PY3 ZG PI
              have hnn := HN.out
              have ewj2 : IntKind.i64.wrap ((j : Int) + 2) = (j : Int) + 2 := IntWalk.i64_in _ (by omega)
              have HW0 : Hid (w.heap.size ≤ (wf.setCell ⟨w.heap.size, 1, none⟩ (.int .i64 (ay + zag y))).heap.size) := B6.out.grow.size
              have HW1 : Hid (w.heap.size + 1 ≤ (wf.setCell ⟨w.heap.size, 1, none⟩ (.int .i64 (ay + zag y))).heap.size) := B6.out.lt
              go_wp2_with (at_builtin; refine wpList_newAt (w0 := w) rfl _ _ rfl el_pt O6.out rfl 1 _ (size_setCell _ _ _) _ rfl (by decide) rfl (by simp [Value.oneCell']) (by have := HLEN.out; have := HJM.out; omega) B6.out.grow ⟨Nat.le_succ _, HW1.out⟩ ?_; intro v7 w7 hown7 hg7 hgr7 hb7; have O7 := Lib.hid hown7; have B7 := Lib.hid (B6.out.by_ hgr7 (fun k hk => by have := own_ge O6.out k hk; omega) (fun e => NE.out e.symm)); clear hown7 hg7 hgr7 hb7)
              go_roundw
              case rel =>
                refine ⟨m + 1, j + 1 + 1, ⟨X, ay + zag y⟩, ps ++ [⟨X, ay + zag y⟩], by omega, by rw [show ((j + 1 + 1 : Nat) : Int) = (j : Int) + 2 by omega], by go_num, B7.out, (by have := hj.out; omega : j + 1 + 1 = i + 2 * (m + 1)), by omega, own_eq O7.out rfl (by simp [Pts, Pt.cells]), ?_, ?_, ?_, ?_⟩
                · show _ = _
                  rw [List.length_append, hps.out]; rfl
                · exact (lastPt_snoc _ _ _).symm
                · show _ = _
                  rw [hk2, hpt.out, P6.out, preP_app]
                · exact ⟨inm_iff.1 HI.out, inm_iff.1 HI2.out⟩
              case measure => simp [intOf]; omega
          · have P0 : Hid (ptsS n a (l.drop i) = .error 2) := by show _ = _; rw [hpt.out, PM2.out (by omega)]; rfl
            have t2 : decide ((l.length : Int) ≤ (j : Int) + 1) = true := decide_eq_true (by omega)
            clear h5
            go_wp2
            exact HE.out 2 P0.out _ B2.out.grow
      · have P0 : Hid (ptsS n a (l.drop i) = .error 2) := by show _ = _; rw [hpt.out, pts_end (by omega)]; rfl
        go_wp2
        exact HE.out 2 P0.out _ hB.out.grow
    · obtain rfl : m = n := by omega
      have hpt2 := hpt.out
      rw [Nat.sub_self] at hpt2
      have hlen2 := hps.out
      subst hlen2
      have ha2 := ha'.out
      subst ha2
      go_wp2
      exact HR.out ps j (by rw [hpt2]; simp [ptsS, preP]) hjl hj.out _ _ (own_base hO.out (Nat.le_succ _)) hB.out.grow hna.out
end Go.Proofs.YtfdjdfobhkmlpaaDoor

namespace Go.Proofs.YtfdjdfobhkmlpaaDoor
open Go.RowKit B

set_option maxRecDepth 100000 in
set_option maxHeartbeats 4000000 in
theorem rdecode_bad (kind : Int) (l : List Int) (lv : Value) (w : World) (hk : ¬ (1 ≤ kind ∧ kind ≤ 3)) {R : Ending → World → Prop} (hR : DecH kind l w R) :
    Calls Tryd.prog 97 #[.int .i64 kind, lv] w R := by
  have HR := Lib.hid (hR.1 1 (by unfold decS; rw [if_pos (by omega)]))
  clear hR
  by_cases h1 : kind < 1
  · have t1 : decide (kind < 1) = true := decide_eq_true h1
    clear hk h1
    go_enter Tryd.func97, Tryd.ntmps97
    go_wp2
    exact HR.out _ (Grow.refl w)
  · have t1 : decide (kind < 1) = false := decide_eq_false h1
    have t2 : decide (3 < kind) = true := decide_eq_true (by omega)
    clear hk h1
    go_enter Tryd.func97, Tryd.ntmps97
    go_wp2
    exact HR.out _ (Grow.refl w)

theorem last_cells {w : World} {base n : Nat} {e : TypeId} {v : Value} {ps : List Pt} (h : w.ownsRow base e 2 v ps.length (Pts ps)) (hn : ps.length = n + 1) (a : Pt) :
    ∃ b o c, v = .slice (some ⟨b, o, none⟩) (n + 1) c ∧ n + 1 ≤ c ∧ c ≤ 2 ^ 63 - 1 ∧ base ≤ b ∧ b < w.heap.size ∧ w.cell? ⟨b, o + n * 2, none⟩ = some (.int .i64 (lastPt a ps).x) ∧ w.cell? ⟨b, o + n * 2 + 1, none⟩ = some (.int .i64 (lastPt a ps).y) := by
  have hb := h.lt
  obtain ⟨_, A, c, rfl, h1, h2, h3, h4⟩ := (Rd.own h)
  obtain ⟨b, o, rfl, hS, hc⟩ := h4 (by omega)
  have hlt : n < ps.length := by omega
  have e1 := flat_cells Pt.cells_len (Grow.refl w) (hb b hS.symm).2 hc hlt
  have hl : lastPt a ps = ps[n] := by
    unfold lastPt
    rw [List.getLast?_eq_getElem?, show ps.length - 1 = n by omega, List.getElem?_eq_getElem hlt]
    rfl
  rw [hl]
  refine ⟨b, o, c, by rw [hn], by omega, h2, (hb b hS.symm).1, (hb b hS.symm).2, ?_, e1 1 _ rfl⟩
  exact e1 0 _ rfl

set_option maxRecDepth 100000 in
set_option maxHeartbeats 8000000 in
theorem rdecode_one (l : List Int) (lv : Value) (S : Nat → Prop) (w : World) (hl : Rd w S 1 lv l.length (U32 l)) (hu : ∀ x ∈ l, 0 ≤ x ∧ x ≤ 4294967295) (hlen : l.length ≤ 1000) {R : Ending → World → Prop} (hR : DecH 1 l w R) :
    Calls Tryd.prog 97 #[.int .i64 1, lv] w R := by
  have HR := Lib.hid hR
  have hl := hl.lt (by decide)
  have HL := Lib.hid hl
  have HU := Lib.hid hu
  have HLEN := Lib.hid hlen
  obtain ⟨_, A, c, rfl, h1, h2, h3, h4⟩ := hl
  unfold maxLen at h2
  clear hR hu h3
  have BX := Lib.hid (BoxH.laid #[.int .i64 0, .int .i64 0] 137 (Grow.refl w))
  go_enter Tryd.func97, Tryd.ntmps97
  go_wp2
  generalize w.alloc (.cells #[.int .i64 0, .int .i64 0] 137) = wa at *
  go_loopw [6, 8] (fun s i' wr => ∃ (i : Nat) (a : Pt) (rows : List PRow), i' = .int .i64 i ∧ Hid (BoxH w w.heap.size #[.int .i64 a.x, .int .i64 a.y] 137 wr) ∧ Hid (wr.ownsRow w.heap.size 95 1 s rows.length (rows.map PRow.v)) ∧ Hid (∀ r ∈ rows, r.rd wr (Fr w.heap.size s)) ∧ Hid (s.ownBlock ≠ some w.heap.size) ∧ i ≤ l.length ∧ Hid ((i = 0 ∧ rows = [] ∧ a = ⟨0, 0⟩) ∨ (0 < i ∧ decS 1 l = if i < l.length then .error 3 else .ok (rows.map PRow.l)))) (fun _ i' _ => l.length - (intOf i').toNat)
  case atStart => exact ⟨0, ⟨0, 0⟩, [], rfl, BX.out, World.ownsRow_nil _ _ _ _, (fun r hr => by cases hr), (by simp [Value.ownBlock] : (Value.slice none 0 0).ownBlock ≠ some w.heap.size), Nat.zero_le _, .inl ⟨rfl, rfl, rfl⟩⟩
  case round =>
    clear BX
    obtain ⟨i, a, rows, rfl, hB, hO, hRS, hNE, hi, hst⟩ := hrel
    rcases hst.out with ⟨e1, e2, e3⟩ | ⟨hp, hd⟩
    · subst e1 e2 e3
      by_cases h0 : 0 < l.length
      · obtain ⟨b, o, rfl, hS, hc⟩ := h4 h0
        have hx := HU.out l[0] (List.getElem_mem h0)
        have C0 : Hid (∀ W, Grow w W → W.cell? ⟨b, o, none⟩ = some (.int .u32 l[0])) := fun W hW => (hW.cell (p := ⟨b, o + 0, none⟩) hS).trans (hc 0 _ (U32_at l 0 h0))
        have CS : Hid (cmdS 1 1 536870912 ⟨0, 0⟩ l = if l[0] % 8 ≠ 1 ∨ l[0] / 8 < 1 ∨ (536870912 : Int) < l[0] / 8 then .error 3 else ptsS (l[0] / 8).toNat ⟨0, 0⟩ (l.drop 1)) := by
          show _ = _
          cases l with
          | nil => simp at h0
          | cons x l => rfl
        have c0 := C0.out _ hB.out.grow
        generalize l[0] = x at *
        by_cases hcc : x % 8 ≠ 1 ∨ x / 8 < 1 ∨ (536870912 : Int) < x / 8
        · have HD : Hid (decS 1 l = .error 3) := by
            show _ = _
            unfold decS
            rw [if_neg (by omega), if_pos rfl]
            unfold dec1
            rw [CS.out, if_pos hcc]
          clear CS
          by_cases h1 : x % 8 = 1
          · have t1 : (x % 8 != 1) = false := by rw [bne_eq_false_iff_eq]; exact h1
            have t2 : decide (x / 8 < 1) = true := decide_eq_true (by omega)
            clear hcc h1
            go_wp2
            exact HR.out.1 3 HD.out _ hB.out.grow
          · have t1 : (x % 8 != 1) = true := by rw [bne_iff_ne]; exact h1
            clear hcc h1
            go_wp2
            exact HR.out.1 3 HD.out _ hB.out.grow
        · have t1 : (x % 8 != 1) = false := by rw [bne_eq_false_iff_eq]; omega
          have t2 : decide (x / 8 < 1) = false := decide_eq_false (by omega)
          have CS2 : Hid (cmdS 1 1 536870912 ⟨0, 0⟩ l = ptsS (x / 8).toNat ⟨0, 0⟩ (l.drop 1)) := by have := CS.out; rw [if_neg hcc] at this; exact this
          obtain ⟨n, hn⟩ : ∃ n : Nat, x / 8 = (n : Int) := ⟨(x / 8).toNat, by omega⟩
          have HN : Hid (1 ≤ n ∧ n ≤ 536870912) := by show _ ∧ _; omega
          rw [hn, Int.toNat_natCast] at CS2
          have P9 := Lib.hid fun W (hg : Grow w W) (R : Ending → World → Prop) => points9_any l (.slice (some ⟨b, o, none⟩) l.length c) 1 n ⟨0, 0⟩ _ W (HL.out.gr (by decide) hg) HU.out ⟨⟨by decide, by decide⟩, by decide, by decide⟩ HLEN.out h0 HN.out.2 (R := R)
          rw [← hn] at P9
          have a0 := hB.out.cell 0
          have a1 := hB.out.cell 1
          have N1 := Lib.hid hn
          clear hcc CS hn
          by_cases h1n : 1 < x / 8
          · have t3 : decide (1 < x / 8) = true := decide_eq_true h1n
            clear h1n
            go_wp2_with fail
            clear t1 t2 t3
            go_at_call 102
            refine P9.out _ hB.out.grow _ ?_ ?_
            · intro e he w' hg'
              have he0 : e ≠ 0 := by rcases ptsS_err _ _ _ _ he with h | h <;> omega
              have HD : Hid (decS 1 l = .error e) := by
                show _ = _
                unfold decS
                rw [if_neg (by omega), if_pos rfl]
                unfold dec1
                rw [CS2.out, he]
              have t4 : (e != 0) = true := by rw [bne_iff_ne]; exact he0
              have G1 := Lib.hid (hB.out.grow.tr hg')
              clear he he0 hg'
              go_wp2
              exact HR.out.1 e HD.out _ G1.out
            · intro ps j hps hj hjn v1 w1 hO1 hg1 hn1
              have hps2 : ps.length = n := (ptsS_len _ _ _ _ _ hps).2.1
              obtain ⟨n', hn'⟩ : ∃ n', ps.length = n' + 1 := ⟨n - 1, by have := HN.out; omega⟩
              have O1 := Lib.hid hO1
              have G1 := Lib.hid (hB.out.grow.tr hg1)
              have B1 := Lib.hid (hB.out.tr hg1)
              have OV := Lib.hid (own_grow hO.out hg1)
              obtain ⟨b2, o2, cc2, rfl, y1, y2, y3, y4, y5, y6⟩ := last_cells hO1 hn' ⟨0, 0⟩
              have W1 : Hid (w.heap.size < wr.heap.size) := hB.out.lt
              have HPS : Hid (decS 1 l = if j < l.length then .error 3 else .ok [ps]) := by
                show _ = _
                unfold decS
                rw [if_neg (by omega), if_pos rfl]
                unfold dec1
                rw [CS2.out, hps]
                by_cases hjl : j < l.length
                · rw [if_pos hjl, List.drop_eq_getElem_cons hjl]
                · rw [if_neg hjl, List.drop_eq_nil_of_le (by omega)]
              have JN : Hid (0 < j) := by show _ < _; omega
              have b0 := B1.out.cell 0
              have b1 := B1.out.cell 1
              have f0 := B1.out.free 0
              have f1 := B1.out.free 1
              generalize lastPt ⟨0, 0⟩ ps = q at *
              obtain ⟨lx, ly⟩ := q
              dsimp only at y5 y6
              have B2 := Lib.hid ((B1.out.set 0 (.int .i64 lx)).set 1 (.int .i64 ly))
              have g1 := (B1.out.set 0 (.int .i64 lx)).free 1
              have OV2 := Lib.hid (own_set (j := 1) (u := .int .i64 ly) (own_set (j := 0) (u := .int .i64 lx) OV.out hNE.out) hNE.out)
              have R1 : Hid (PRow.rd w1 (Fr w.heap.size u6) ⟨.slice (some ⟨b2, o2, none⟩) (n' + 1) cc2, ps⟩) := (Rd.own_from O1.out).into fun b hb => ⟨by have := W1.out; omega, by intro e; have := (hO.out.lt _ e.symm).2; omega⟩
              have R2 : Hid (PRow.rd ((w1.setCell ⟨w.heap.size, 0, none⟩ (.int .i64 lx)).setCell ⟨w.heap.size, 1, none⟩ (.int .i64 ly)) (Fr w.heap.size u6) ⟨.slice (some ⟨b2, o2, none⟩) (n' + 1) cc2, ps⟩) := Fr.put (Fr.put R1.out (Nat.le_refl _)) (Nat.le_refl _)
              clear hps hps2 hO1 hg1 hn1 hjn
              go_wp2_with (at_builtin; refine wpList_newAt (w0 := w) rfl _ _ rfl el_prow OV2.out rfl 1 _ (by rw [size_setCell, size_setCell]) _ rfl (by decide) rfl (by simp [Value.oneCell']) (by simp) B2.out.grow ⟨Nat.le_refl _, B2.out.grow.size⟩ ?_; intro v7 w7 hown7 hg7 hgr7 hb7; have O7 := Lib.hid hown7; have B7 := Lib.hid (B2.out.by_ hgr7 (fun k hk => own_ge OV2.out k hk) (fun e => hNE.out e.symm)); have R7 := Lib.hid (Fr.app (rows := []) (fun r hr => by cases hr) R2.out hgr7 hb7); have NE7 := Lib.hid (ins_ne hNE.out B2.out.lt hb7); clear hown7 hg7 hgr7 hb7)
              go_roundw
              case rel =>
                refine ⟨j, ⟨lx, ly⟩, [PRow.mk (.slice (some ⟨b2, o2, none⟩) (n' + 1) cc2) ps], rfl, B7.out, own_eq O7.out rfl rfl, R7.out, NE7.out, hj, .inr ⟨JN.out, HPS.out⟩⟩
              case measure => simp [intOf]; have := JN.out; omega
          · have t3 : decide (1 < x / 8) = false := decide_eq_false h1n
            clear h1n
            go_wp2_with fail
            clear t1 t2 t3
            go_at_call 102
            refine P9.out _ hB.out.grow _ ?_ ?_
            · intro e he w' hg'
              have he0 : e ≠ 0 := by rcases ptsS_err _ _ _ _ he with h | h <;> omega
              have HD : Hid (decS 1 l = .error e) := by
                show _ = _
                unfold decS
                rw [if_neg (by omega), if_pos rfl]
                unfold dec1
                rw [CS2.out, he]
              have t4 : (e != 0) = true := by rw [bne_iff_ne]; exact he0
              have G1 := Lib.hid (hB.out.grow.tr hg')
              clear he he0 hg'
              go_wp2
              exact HR.out.1 e HD.out _ G1.out
            · intro ps j hps hj hjn v1 w1 hO1 hg1 hn1
              have hps2 : ps.length = n := (ptsS_len _ _ _ _ _ hps).2.1
              obtain ⟨n', hn'⟩ : ∃ n', ps.length = n' + 1 := ⟨n - 1, by have := HN.out; omega⟩
              have O1 := Lib.hid hO1
              have G1 := Lib.hid (hB.out.grow.tr hg1)
              have B1 := Lib.hid (hB.out.tr hg1)
              have OV := Lib.hid (own_grow hO.out hg1)
              obtain ⟨b2, o2, cc2, rfl, y1, y2, y3, y4, y5, y6⟩ := last_cells hO1 hn' ⟨0, 0⟩
              have W1 : Hid (w.heap.size < wr.heap.size) := hB.out.lt
              have HPS : Hid (decS 1 l = if j < l.length then .error 3 else .ok [ps]) := by
                show _ = _
                unfold decS
                rw [if_neg (by omega), if_pos rfl]
                unfold dec1
                rw [CS2.out, hps]
                by_cases hjl : j < l.length
                · rw [if_pos hjl, List.drop_eq_getElem_cons hjl]
                · rw [if_neg hjl, List.drop_eq_nil_of_le (by omega)]
              have JN : Hid (0 < j) := by show _ < _; omega
              have b0 := B1.out.cell 0
              have b1 := B1.out.cell 1
              have f0 := B1.out.free 0
              have f1 := B1.out.free 1
              generalize lastPt ⟨0, 0⟩ ps = q at *
              obtain ⟨lx, ly⟩ := q
              dsimp only at y5 y6
              have B2 := Lib.hid ((B1.out.set 0 (.int .i64 lx)).set 1 (.int .i64 ly))
              have g1 := (B1.out.set 0 (.int .i64 lx)).free 1
              have OV2 := Lib.hid (own_set (j := 1) (u := .int .i64 ly) (own_set (j := 0) (u := .int .i64 lx) OV.out hNE.out) hNE.out)
              have R1 : Hid (PRow.rd w1 (Fr w.heap.size u6) ⟨.slice (some ⟨b2, o2, none⟩) (n' + 1) cc2, ps⟩) := (Rd.own_from O1.out).into fun b hb => ⟨by have := W1.out; omega, by intro e; have := (hO.out.lt _ e.symm).2; omega⟩
              have R2 : Hid (PRow.rd ((w1.setCell ⟨w.heap.size, 0, none⟩ (.int .i64 lx)).setCell ⟨w.heap.size, 1, none⟩ (.int .i64 ly)) (Fr w.heap.size u6) ⟨.slice (some ⟨b2, o2, none⟩) (n' + 1) cc2, ps⟩) := Fr.put (Fr.put R1.out (Nat.le_refl _)) (Nat.le_refl _)
              clear hps hps2 hO1 hg1 hn1 hjn
              go_wp2_with (at_builtin; refine wpList_newAt (w0 := w) rfl _ _ rfl el_prow OV2.out rfl 1 _ (by rw [size_setCell, size_setCell]) _ rfl (by decide) rfl (by simp [Value.oneCell']) (by simp) B2.out.grow ⟨Nat.le_refl _, B2.out.grow.size⟩ ?_; intro v7 w7 hown7 hg7 hgr7 hb7; have O7 := Lib.hid hown7; have B7 := Lib.hid (B2.out.by_ hgr7 (fun k hk => own_ge OV2.out k hk) (fun e => hNE.out e.symm)); have R7 := Lib.hid (Fr.app (rows := []) (fun r hr => by cases hr) R2.out hgr7 hb7); have NE7 := Lib.hid (ins_ne hNE.out B2.out.lt hb7); clear hown7 hg7 hgr7 hb7)
              go_roundw
              case rel =>
                refine ⟨j, ⟨lx, ly⟩, [PRow.mk (.slice (some ⟨b2, o2, none⟩) (n' + 1) cc2) ps], rfl, B7.out, own_eq O7.out rfl rfl, R7.out, NE7.out, hj, .inr ⟨JN.out, HPS.out⟩⟩
              case measure => simp [intOf]; have := JN.out; omega
      · have HD : Hid (decS 1 l = .error 2) := by
          show _ = _
          have : l = [] := List.eq_nil_of_length_eq_zero (by omega)
          subst this
          rfl
        have t0 : ((l.length : Int) == 0) = true := by rw [beq_iff_eq]; omega
        clear h0
        go_wp2
        exact HR.out.1 2 HD.out _ hB.out.grow
    · have t0 : ((i : Int) == 0) = false := by rw [beq_eq_false_iff_ne]; omega
      by_cases hlt : i < l.length
      · obtain ⟨b, o, rfl, hS, hc⟩ := h4 (by omega)
        have hx := HU.out l[i] (List.getElem_mem hlt)
        have C0 : wr.cell? ⟨b, o + i, none⟩ = some (.int .u32 l[i]) := (hB.out.grow.cell (p := ⟨b, o + i, none⟩) hS).trans (hc i _ (U32_at l i hlt))
        rw [if_pos hlt] at hd
        have HD := Lib.hid hd
        have t3 : decide (0 < i) = true := decide_eq_true hp
        have t5 : ((l.length : Int) == 0) = false := by rw [beq_eq_false_iff_ne]; omega
        generalize l[i] = x at *
        clear hd
        by_cases g1 : x % 8 = 1
        · have t1 : (x % 8 != 1) = false := by rw [bne_eq_false_iff_eq]; exact g1
          by_cases g2 : x / 8 < 1
          · have t2 : decide (x / 8 < 1) = true := decide_eq_true g2
            clear g1 g2
            go_wp2
            exact HR.out.1 3 HD.out _ hB.out.grow
          · have t2 : decide (x / 8 < 1) = false := decide_eq_false g2
            by_cases g3 : 1 < x / 8
            · have t4 : decide (1 < x / 8) = true := decide_eq_true g3
              clear g1 g2 g3
              go_wp2
              exact HR.out.1 3 HD.out _ hB.out.grow
            · have t4 : decide (1 < x / 8) = false := decide_eq_false g3
              clear g1 g2 g3
              go_wp2
              exact HR.out.1 3 HD.out _ hB.out.grow
        · have t1 : (x % 8 != 1) = true := by rw [bne_iff_ne]; exact g1
          clear g1
          go_wp2
          exact HR.out.1 3 HD.out _ hB.out.grow
      · obtain rfl : i = l.length := by omega
        rw [if_neg (by omega)] at hd
        have HD := Lib.hid hd
        have O8 := Lib.hid hO.out
        clear hd
        go_wp2
        exact HR.out.2 rows HD.out _ _ hO.out (fun r hr => (hRS.out r hr).into fun b hb => Nat.le_of_lt hb.1) hB.out.grow
end Go.Proofs.YtfdjdfobhkmlpaaDoor

namespace Go.Proofs.YtfdjdfobhkmlpaaDoor
open Go.RowKit B

section
variable {l : List Int} {i : Nat} {k low high : Int} {a : Pt}
theorem cmd_end (h : l.length ≤ i) : cmdS k low high a (l.drop i) = .error 2 := by rw [List.drop_eq_nil_of_le h]; rfl
theorem cmd_bad (h : i < l.length) (hb : l[i] % 8 ≠ k ∨ l[i] / 8 < low ∨ high < l[i] / 8) : cmdS k low high a (l.drop i) = .error 3 := by
  rw [List.drop_eq_getElem_cons h]
  simp only [cmdS]
  rw [if_pos hb]
theorem cmd_go (h : i < l.length) (hb : ¬ (l[i] % 8 ≠ k ∨ l[i] / 8 < low ∨ high < l[i] / 8)) : cmdS k low high a (l.drop i) = ptsS (l[i] / 8).toNat a (l.drop (i + 1)) := by
  rw [List.drop_eq_getElem_cons h]
  simp only [cmdS]
  rw [if_neg hb]
theorem end_no {kind : Int} {p : List Pt} {j : Nat} (h : kind ≠ 3) : endS kind p (l.drop j) = .ok (p, l.drop j) := by unfold endS; rw [if_neg h]
theorem end_short {p : List Pt} {j : Nat} (h : l.length ≤ j) : endS 3 p (l.drop j) = .error 2 := by unfold endS; rw [if_pos rfl, List.drop_eq_nil_of_le h]
theorem end_bad {p : List Pt} {j : Nat} (h : j < l.length) (hb : l[j] ≠ 15) : endS 3 p (l.drop j) = .error 3 := by
  unfold endS
  rw [if_pos rfl, List.drop_eq_getElem_cons h]
  dsimp only
  rw [if_neg hb]
theorem end_go {p : List Pt} {j : Nat} (h : j < l.length) (hb : l[j] = 15) : endS 3 p (l.drop j) = .ok (p, l.drop (j + 1)) := by
  unfold endS
  rw [if_pos rfl, List.drop_eq_getElem_cons h]
  dsimp only
  rw [if_pos hb]
end
theorem preR_err {rows : List (List Pt)} {fu : Nat} {kind : Int} {a : Pt} {l : List Int} {e : Int} (hf : 0 < fu) (h : pathS kind a l = .error e) : preR rows (decG fu kind a l) = .error e := by
  obtain ⟨fu', rfl⟩ : ∃ f, fu = f + 1 := ⟨fu - 1, by omega⟩
  rw [decG_err h]; rfl

theorem points9_at (J N : Int) (l : List Int) (lv : Value) (i n : Nat) (hJ : J = i) (hN : N = n) (a : Pt) (S : Nat → Prop) (w : World) (hl : Rd w S 1 lv l.length (U32 l)) (hu : ∀ x ∈ l, 0 ≤ x ∧ x ≤ 4294967295) (ha : Near a) (hlen : l.length ≤ 1000) (hi : i ≤ l.length) (hn : n ≤ 536870912) {R : Ending → World → Prop}
    (hE : ∀ e, ptsS n a (l.drop i) = .error e → e ≠ 0 → ∀ w', Grow w w' → R (.returned (.tuple #[.slice none 0 0, .int .i64 0, .int .i64 e])) w')
    (hR : ∀ ps j, ptsS n a (l.drop i) = .ok (ps, l.drop j) → j ≤ l.length → ps.length = n → i ≤ j → ∀ v w', w'.ownsRow w.heap.size 137 2 v ps.length (Pts ps) → Grow w w' → Near (lastPt a ps) → R (.returned (.tuple #[v, .int .i64 j, .int .i64 0])) w') :
    Calls Tryd.prog 102 #[lv, .int .i64 J, .int .i64 N, .agg #[.int .i64 a.x, .int .i64 a.y]] w R := by
  subst hJ hN
  exact points9_any l lv i n a S w hl hu ha hlen hi hn (fun e he => hE e he (by rcases ptsS_err _ _ _ _ he with h | h <;> omega)) (fun ps j hps hj hjn => hR ps j hps hj (ptsS_len _ _ _ _ _ hps).2.1 (by omega))

theorem kept2 {w w' : World} {base s n B : Nat} {e : TypeId} {v v2 : Value} {xs : List Value} (h : w.ownsRow base e s v n xs) (hg : w.grownBy w' v2.ownBlock) (hlt : ∀ k, v.ownBlock = some k → k < B) (hge : ∀ k, v2.ownBlock = some k → B ≤ k) : w'.ownsRow base e s v n xs := by
  refine h.kept hg ?_
  cases hv : v.ownBlock with
  | none => exact .inl rfl
  | some k => exact .inr fun e => by have := hlt k hv; have := hge k e.symm; omega

set_option maxRecDepth 100000 in
set_option maxHeartbeats 16000000 in
theorem rdecode_more (kind : Int) (l : List Int) (lv : Value) (S : Nat → Prop) (w : World) (hk : 2 ≤ kind ∧ kind ≤ 3) (hl : Rd w S 1 lv l.length (U32 l)) (hu : ∀ x ∈ l, 0 ≤ x ∧ x ≤ 4294967295) (hlen : l.length ≤ 1000) {R : Ending → World → Prop} (hR : DecH kind l w R) :
    Calls Tryd.prog 97 #[.int .i64 kind, lv] w R := by
  have HR := Lib.hid hR
  have hl := hl.lt (by decide)
  have HL := Lib.hid hl
  have HU := Lib.hid hu
  have HLEN := Lib.hid hlen
  obtain ⟨_, A, c, rfl, h1, h2, h3, h4⟩ := hl
  unfold maxLen at h2
  have HD0 : Hid (decS kind l = decG (l.length + 1) kind ⟨0, 0⟩ l) := by show _ = _; unfold decS; rw [if_neg (by omega), if_neg (by omega)]
  have k1 : decide (kind < 1) = false := decide_eq_false (by omega)
  have k2 : decide (3 < kind) = false := decide_eq_false (by omega)
  have k3 : (kind == 1) = false := by rw [beq_eq_false_iff_ne]; omega
  have k4 : decide (1 < kind) = true := decide_eq_true (by omega)
  have k5 : IntKind.i64.wrap (kind - 1) = kind - 1 := IntWalk.i64_in _ (by omega)
  have KK := Lib.hid hk
  have BX := Lib.hid (BoxH.laid #[.int .i64 0, .int .i64 0] 137 (Grow.refl w))
  clear hR hu h3 hk
  go_enter Tryd.func97, Tryd.ntmps97
  go_wp2
  generalize w.alloc (.cells #[.int .i64 0, .int .i64 0] 137) = wa at *
  clear k1 k2
  go_loopw [6, 8] (fun s i' wr => ∃ (i fu : Nat) (a : Pt) (rows : List PRow), i' = .int .i64 i ∧ Hid (BoxH w w.heap.size #[.int .i64 a.x, .int .i64 a.y] 137 wr) ∧ Hid (wr.ownsRow w.heap.size 95 1 s rows.length (rows.map PRow.v)) ∧ Hid (∀ r ∈ rows, r.rd wr (Fr w.heap.size s)) ∧ Hid (s.ownBlock ≠ some w.heap.size) ∧ i ≤ l.length ∧ Hid (Near a) ∧ Hid (rows.length ≤ i ∧ l.length < i + fu) ∧ Hid (decS kind l = if i = 0 ∨ i < l.length then preR (rows.map PRow.l) (decG fu kind a (l.drop i)) else .ok (rows.map PRow.l))) (fun _ i' _ => l.length - (intOf i').toNat)
  case atStart => exact ⟨0, l.length + 1, ⟨0, 0⟩, [], rfl, BX.out, World.ownsRow_nil _ _ _ _, (fun r hr => by cases hr), (by simp [Value.ownBlock] : (Value.slice none 0 0).ownBlock ≠ some w.heap.size), Nat.zero_le _, ⟨⟨by decide, by decide⟩, by decide, by decide⟩, ⟨Nat.le_refl _, by omega⟩, by
    show _ = _
    rw [if_pos (.inl rfl), HD0.out]
    exact (preR_nil _).symm⟩
  case round =>
    clear BX HD0
    obtain ⟨i, fu, a, rows, rfl, hB, hO, hRS, hNE, hi, hNA, hBD, hst⟩ := hrel
    by_cases h0 : i < l.length
    · obtain ⟨b, o, rfl, hS, hc⟩ := h4 (by omega)
      have CA : Hid (∀ (j : Nat) (h : j < l.length) W, Grow w W → W.cell? ⟨b, o + j, none⟩ = some (.int .u32 l[j])) := fun j h W hW => (hW.cell (p := ⟨b, o + j, none⟩) hS).trans (hc j _ (U32_at l j h))
      have PB : Hid (∀ e, pathS kind a (l.drop i) = .error e → decS kind l = .error e) := fun e he => by rw [hst.out, if_pos (.inr h0)]; exact preR_err (by have := hBD.out; omega) he
      have PD : Hid (decS kind l = preR (rows.map PRow.l) (decG fu kind a (l.drop i))) := by show _ = _; rw [hst.out, if_pos (.inr h0)]
      have MR : Hid (rows.length ≤ 1000) := by show _ ≤ _; have := hBD.out; have := HLEN.out; omega
      have hx := HU.out l[i] (List.getElem_mem h0)
      have c0 := CA.out i h0 wr hB.out.grow
      have CB : Hid ((l[i] % 8 ≠ 1 ∨ l[i] / 8 < 1 ∨ 1 < l[i] / 8) → cmdS 1 1 1 a (l.drop i) = .error 3) := fun h => cmd_bad h0 h
      have CG : Hid (¬ (l[i] % 8 ≠ 1 ∨ l[i] / 8 < 1 ∨ 1 < l[i] / 8) → cmdS 1 1 1 a (l.drop i) = ptsS (l[i] / 8).toNat a (l.drop (i + 1))) := fun h => cmd_go h0 h
      have t5 : ((l.length : Int) == 0) = false := by rw [beq_eq_false_iff_ne]; omega
      have a0 := hB.out.cell 0
      have a1 := hB.out.cell 1
      have P9 := Lib.hid fun J N j n (hJ : J = ((j : Nat) : Int)) (hN : N = ((n : Nat) : Int)) q W (hg : Grow w W) (hq : Near q) (hj : j ≤ l.length) (hn : n ≤ 536870912) (R : Ending → World → Prop) => points9_at J N l (.slice (some ⟨b, o, none⟩) l.length c) j n hJ hN q _ W (HL.out.gr (by decide) hg) HU.out hq HLEN.out hj hn (R := R)
      generalize l[i] = x at *
      clear hl h4 hc hst
      by_cases hz : i = 0
      · have z0 : ((i : Int) == 0) = true := by rw [beq_iff_eq]; omega
        clear hz
        by_cases g1 : x % 8 = 1
        · have t1 : (x % 8 != 1) = false := by rw [bne_eq_false_iff_eq]; exact g1
          by_cases g2 : x / 8 < 1
          · have t2 : decide (x / 8 < 1) = true := decide_eq_true g2
            have HD := Lib.hid (PB.out 3 (pathS_e1 (CB.out (.inr (.inl g2)))))
            clear g1 g2
            go_wp2
            exact HR.out.1 3 HD.out _ hB.out.grow
          · have t2 : decide (x / 8 < 1) = false := decide_eq_false g2
            by_cases g3 : 1 < x / 8
            · have t3 : decide (1 < x / 8) = true := decide_eq_true g3
              have HD := Lib.hid (PB.out 3 (pathS_e1 (CB.out (.inr (.inr g3)))))
              clear g1 g2 g3
              go_wp2
              exact HR.out.1 3 HD.out _ hB.out.grow
            · have CG2 := Lib.hid (CG.out (by omega))
              have hx9 : x = 9 := by omega
              clear g1 g2 g3 t1 t2 CB CG hx
              subst hx9
              have CG3 : Hid (cmdS 1 1 1 a (l.drop i) = ptsS 1 a (l.drop (i + 1))) := CG2.out
              clear CG2
              go_wp2_with fail
              clear z0 t5
              go_at_call 102
              refine P9.out _ _ (i + 1) 1 (by omega) rfl a wr hB.out.grow hNA.out h0 (by decide) _ ?_ ?_
              · intro e he he0 w' hg'
                have HD := Lib.hid (PB.out e (pathS_e1 (CG3.out.trans he)))
                have t4 : (e != 0) = true := by rw [bne_iff_ne]; exact he0
                have G1 := Lib.hid (hB.out.grow.tr hg')
                clear he he0 hg'
                go_wp2
                exact HR.out.1 e HD.out _ G1.out
              · intro ps j hps hj hpl hij v1 w1 hO1 hg1 hn1
                have CG4 := Lib.hid (CG3.out.trans hps)
                have O1 := Lib.hid hO1
                have G1 := Lib.hid (hB.out.grow.tr hg1)
                have B1 := Lib.hid (hB.out.tr hg1)
                have OV := Lib.hid (own_grow hO.out hg1)
                have RS1 : Hid (∀ r ∈ rows, r.rd w1 (fun b => Fr w.heap.size u6 b ∧ b < wr.heap.size)) := fun r hr => (Rd.and_lt (hRS.out r hr) (by decide)).gr2 (by decide) hg1
                obtain ⟨b2, o2, cc2, rfl, y1, y2, y3, y4, y5, y6⟩ := last_cells hO1 hpl a
                have W1 : Hid (w.heap.size < wr.heap.size) := hB.out.lt
                have OLT : Hid (∀ k, u6.ownBlock = some k → k < wr.heap.size) := fun k hk => (hO.out.lt k hk).2
                have JN : Hid (i < j) := by show _ < _; omega
                have NQ := Lib.hid hn1
                have PL := Lib.hid hpl
                have b0 := B1.out.cell 0
                have b1 := B1.out.cell 1
                have f0 := B1.out.free 0
                have f1 := B1.out.free 1
                have HQ : Hid (∃ q, lastPt a ps = q) := ⟨_, rfl⟩
                obtain ⟨q, hq⟩ := HQ.out
                have LQ := Lib.hid hq
                rw [hq] at y5 y6 NQ
                obtain ⟨lx, ly⟩ := q
                dsimp only at y5 y6
                simp only [Nat.zero_mul, Nat.add_zero] at y5 y6
                have B2 : Hid (BoxH w w.heap.size #[.int .i64 lx, .int .i64 ly] 137 ((w1.setCell ⟨w.heap.size, 0, none⟩ (.int .i64 lx)).setCell ⟨w.heap.size, 1, none⟩ (.int .i64 ly))) := (B1.out.set 0 (.int .i64 lx)).set 1 (.int .i64 ly)
                have g1 := (B1.out.set 0 (.int .i64 lx)).free 1
                have OV2 := Lib.hid (own_set (j := 1) (u := .int .i64 ly) (own_set (j := 0) (u := .int .i64 lx) OV.out hNE.out) hNE.out)
                have RS2 : Hid (∀ r ∈ rows, r.rd ((w1.setCell ⟨w.heap.size, 0, none⟩ (.int .i64 lx)).setCell ⟨w.heap.size, 1, none⟩ (.int .i64 ly)) (fun b => Fr w.heap.size u6 b ∧ b < wr.heap.size)) := fun r hr => Rd.put (Rd.put (RS1.out r hr) (by decide) (fun b hb => by have := hb.1.1; omega)) (by decide) (fun b hb => by have := hb.1.1; omega)
                have WR2 : Hid (wr.heap.size ≤ ((w1.setCell ⟨w.heap.size, 0, none⟩ (.int .i64 lx)).setCell ⟨w.heap.size, 1, none⟩ (.int .i64 ly)).heap.size) := by rw [size_setCell, size_setCell]; exact hg1.size
                have NE2 : Hid ((Value.slice (some ⟨b2, o2, none⟩) (0 + 1) cc2).ownBlock ≠ some w.heap.size) := fun e => by have := (O1.out.lt _ e).1; have := W1.out; omega
                have OP2 := Lib.hid (own_set (j := 1) (u := .int .i64 ly) (own_set (j := 0) (u := .int .i64 lx) O1.out NE2.out) NE2.out)
                clear hps hpl hij hO1 hg1 hn1 hq HQ CG3 B1 OV RS1 hB hO hRS O1 G1 a0 a1 c0
                by_cases h5 : j < l.length
                · have c5 : ((w1.setCell ⟨w.heap.size, 0, none⟩ (.int .i64 lx)).setCell ⟨w.heap.size, 1, none⟩ (.int .i64 ly)).cell? ⟨b, o + j, none⟩ = some (.int .u32 l[j]) := CA.out j h5 _ B2.out.grow
                  have d0 := B2.out.cell 0
                  have d1 := B2.out.cell 1
                  have hx := HU.out l[j] (List.getElem_mem h5)
                  have CB : Hid ((l[j] % 8 ≠ 2 ∨ l[j] / 8 < kind - 1 ∨ (536870912 : Int) < l[j] / 8) → cmdS 2 (kind - 1) 536870912 (lastPt a ps) (l.drop j) = .error 3) := fun h => cmd_bad h5 h
                  have CG : Hid (¬ (l[j] % 8 ≠ 2 ∨ l[j] / 8 < kind - 1 ∨ (536870912 : Int) < l[j] / 8) → cmdS 2 (kind - 1) 536870912 (lastPt a ps) (l.drop j) = ptsS (l[j] / 8).toNat (lastPt a ps) (l.drop (j + 1))) := fun h => cmd_go h5 h
                  generalize l[j] = x at *
                  by_cases g1' : x % 8 = 2
                  · have t1 : (x % 8 != 2) = false := by rw [bne_eq_false_iff_eq]; exact g1'
                    by_cases g2 : x / 8 < kind - 1
                    · have t2 : decide (x / 8 < kind - 1) = true := decide_eq_true g2
                      have HD := Lib.hid (PB.out 3 (pathS_e2 CG4.out (CB.out (.inr (.inl g2)))))
                      clear g1' g2
                      go_wp2
                      exact HR.out.1 3 HD.out _ B2.out.grow
                    · have t2 : decide (x / 8 < kind - 1) = false := decide_eq_false g2
                      have CG2 := Lib.hid (CG.out (by omega))
                      obtain ⟨n, hn⟩ : ∃ n : Nat, x / 8 = (n : Int) := ⟨(x / 8).toNat, by omega⟩
                      have HN : Hid (n ≤ 536870912) := by show _ ≤ _; omega
                      have HNX := Lib.hid hn
                      rw [hn, Int.toNat_natCast] at CG2
                      clear g1' g2 hn CB CG
                      go_wp2_with fail
                      clear d0 d1 c5 b0 b1 f0 f1 g1 y5 y6 t1 t2
                      generalize (w1.setCell ⟨w.heap.size, 0, none⟩ (.int .i64 lx)).setCell ⟨w.heap.size, 1, none⟩ (.int .i64 ly) = w2 at *
                      go_at_call 102
                      refine P9.out _ _ (j + 1) n (by omega) HNX.out ⟨lx, ly⟩ w2 B2.out.grow NQ.out h5 HN.out _ ?_ ?_
                      · intro e he he0 w' hg'
                        have HD := Lib.hid (PB.out e (pathS_e2 CG4.out (CG2.out.trans (by rw [LQ.out]; exact he))))
                        have t4 : (e != 0) = true := by rw [bne_iff_ne]; exact he0
                        have G1 := Lib.hid (B2.out.grow.tr hg')
                        clear he he0 hg'
                        go_wp2
                        exact HR.out.1 e HD.out _ G1.out
                      · intro q j2 hps hj2 hpl hij v3 w3 hO3 hg3 hn3
                        have P2 := Lib.hid (pathS_o2 CG4.out (CG2.out.trans (by rw [LQ.out]; exact hps)))
                        have J2 : Hid (i < j2 ∧ j2 ≤ l.length) := by show _ ∧ _; have := JN.out; omega
                        have PLQ : Hid ((ps ++ q).length = q.length + 1) := by show _ = _; rw [List.length_append, PL.out]; omega
                        have LN : Hid (ps.length + q.length ≤ 2000) := by
                          show _ ≤ _
                          have := (cmdS_len (CG2.out.trans (by rw [LQ.out]; exact hps))).2
                          rw [List.length_drop] at this
                          have := HLEN.out; have := PL.out
                          omega
                        have lq : q.length ≤ 2000 := by have := LN.out; omega
                        have O3 := Lib.hid hO3
                        have B3 := Lib.hid (B2.out.tr hg3)
                        have OV3 := Lib.hid (own_grow OV2.out hg3)
                        have OP3 := Lib.hid (own_grow OP2.out hg3)
                        have RS3 : Hid (∀ r ∈ rows, r.rd w3 (fun b => Fr w.heap.size u6 b ∧ b < wr.heap.size)) := fun r hr => (RS2.out r hr : Rd _ _ _ _ _ _).gr2 (by decide) hg3
                        have SZ3 : Hid (wr.heap.size ≤ w3.heap.size) := Nat.le_trans WR2.out hg3.size
                        have NM : Hid (Near (lastPt a (ps ++ q))) := by
                          show Near _
                          rw [← lastPt_app, LQ.out]
                          exact hn3
                        obtain ⟨Q2, hQ2⟩ : ∃ Q2, lastPt a (ps ++ q) = Q2 := ⟨_, rfl⟩
                        rw [hQ2] at NM
                        have LM := Lib.hid hQ2
                        obtain ⟨mx, my⟩ := Q2
                        obtain ⟨X3, cc3, hv3⟩ := own_slice hO3
                        subst hv3
                        clear hps hpl hij hO3 hg3 hn3 hj2 hQ2 h5 B2 OV2 OP2 RS2 CG2 CG4 HNX hx
                        by_cases h3 : kind = 3
                        · have k6 : (kind == 3) = true := by rw [beq_iff_eq]; exact h3
                          have P2' : Hid (pathS kind a (l.drop i) = endS 3 (ps ++ q) (l.drop j2)) := by have := P2.out; rw [h3] at this ⊢; exact this
                          clear P2 h3
                          by_cases h6 : j2 < l.length
                          · by_cases h7 : l[j2] = 15
                            · have P3 := Lib.hid (P2'.out.trans (end_go h6 h7))
                              have HZ7 := Lib.hid h7
                              clear h7 P2'
                              go_wp2_with (at_builtin; first | (refine wpList_app rfl _ _ rfl el_pt OP3.out rfl (Rd.own O3.out) rfl (Pts_one _) (by have := LN.out; omega) SZ3.out ?_; intro v4 w4 hown4 hgr4 hb4; obtain ⟨b4, o4, c4, rfl, z1, z2, z3, z4, z5, z6⟩ := last_cells (own_eq hown4 (List.length_append).symm (Pts_app _ _).symm) PLQ.out a; rw [LM.out] at z5 z6; dsimp only at z5 z6; have O4 := Lib.hid (own_eq hown4 (List.length_append).symm (Pts_app _ _).symm); have B4 := Lib.hid (B3.out.by_ hgr4 (fun k hk => by have := own_ge OP3.out k hk; have := W1.out; omega) (fun e => NE2.out e.symm)); have OV4 := Lib.hid (kept2 OV3.out hgr4 OLT.out (own_ge OP3.out)); have RS4 : Hid (∀ r ∈ rows, r.rd w4 (Fr w.heap.size u6)) := (fun r hr => ((RS3.out r hr : Rd _ _ _ _ _ _).by_ (by decide) hgr4 (fun b hb e => by have := own_ge OP3.out b e.symm; have := hb.2; omega)).into fun b hb => hb.1); have R4 : Hid (PRow.rd w4 (Fr w.heap.size u6) ⟨.slice (some ⟨b4, o4, none⟩) (q.length + 1) c4, ps ++ q⟩) := ((Rd.own_from O4.out).into fun b hb => ⟨by have := W1.out; omega, by intro e; have := OLT.out _ e.symm; omega⟩); have b40 := B4.out.cell 0; have b41 := B4.out.cell 1; have f40 := B4.out.free 0; have f41 := (B4.out.set 0 (.int .i64 mx)).free 1; have B5 : Hid (BoxH w w.heap.size #[.int .i64 mx, .int .i64 my] 137 ((w4.setCell ⟨w.heap.size, 0, none⟩ (.int .i64 mx)).setCell ⟨w.heap.size, 1, none⟩ (.int .i64 my))) := ((B4.out.set 0 (.int .i64 mx)).set 1 (.int .i64 my)); have OV5 := Lib.hid (own_set (j := 1) (u := .int .i64 my) (own_set (j := 0) (u := .int .i64 mx) OV4.out hNE.out) hNE.out); have RS5 : Hid (∀ r ∈ rows, r.rd ((w4.setCell ⟨w.heap.size, 0, none⟩ (.int .i64 mx)).setCell ⟨w.heap.size, 1, none⟩ (.int .i64 my)) (Fr w.heap.size u6)) := (fun r hr => Fr.put (Fr.put (RS4.out r hr) (Nat.le_refl _)) (Nat.le_refl _)); have R5 : Hid (PRow.rd ((w4.setCell ⟨w.heap.size, 0, none⟩ (.int .i64 mx)).setCell ⟨w.heap.size, 1, none⟩ (.int .i64 my)) (Fr w.heap.size u6) ⟨.slice (some ⟨b4, o4, none⟩) (q.length + 1) c4, ps ++ q⟩) := (Fr.put (Fr.put R4.out (Nat.le_refl _)) (Nat.le_refl _)); have c6 : ((w4.setCell ⟨w.heap.size, 0, none⟩ (.int .i64 mx)).setCell ⟨w.heap.size, 1, none⟩ (.int .i64 my)).cell? ⟨b, o + j2, none⟩ = some (.int .u32 15) := ((CA.out j2 h6 _ B5.out.grow).trans (by rw [HZ7.out])); clear hown4 hgr4 hb4 z1 z2 z3 z4 OV3 OP3 RS3 B3 O3 B4 OV4 RS4 R4) | (refine wpList_newAt (w0 := w) rfl _ _ rfl el_prow OV5.out rfl 1 _ (by rw [size_setCell, size_setCell]) _ rfl (by decide) rfl (by simp [Value.oneCell']) (by have := MR.out; omega) B5.out.grow ⟨Nat.le_refl _, B5.out.grow.size⟩ ?_; intro v7 w7 hown7 hg7 hgr7 hb7; have O7 := Lib.hid hown7; have B7 := Lib.hid (B5.out.by_ hgr7 (fun k hk => own_ge OV5.out k hk) (fun e => hNE.out e.symm)); have R7 := Lib.hid (Fr.app RS5.out R5.out hgr7 hb7); have NE7 := Lib.hid (ins_ne hNE.out B5.out.lt hb7); clear hown7 hg7 hgr7 hb7))
                              go_roundw
                              case rel =>
                                refine ⟨(j2 + 1), fu - 1, ⟨mx, my⟩, rows ++ [PRow.mk (.slice (some ⟨b4, o4, none⟩) (q.length + 1) c4) (ps ++ q)], (by rw [show ((j2 + 1 : Nat) : Int) = (j2 : Int) + 1 by omega]), B7.out, own_eq O7.out (by simp) (by simp), R7.out, NE7.out, (by have := J2.out; omega), NM.out, ⟨by rw [List.length_append, List.length_singleton]; have := hBD.out; have := J2.out; omega, by have := hBD.out; have := J2.out; omega⟩, ?_⟩
                                show _ = _
                                have hh : decS kind l = preR (rows.map PRow.l) (decG fu kind a (l.drop i)) := PD.out
                                obtain ⟨fu', hfu⟩ : ∃ fu', fu = fu' + 1 := ⟨fu - 1, by have := hBD.out; omega⟩
                                have hj0 : (j2 + 1) ≠ 0 := by have := J2.out; omega
                                rw [hh, hfu, List.map_append]
                                by_cases hjl : (j2 + 1) < l.length
                                · rw [if_pos (.inr hjl), decG_more P3.out hjl, preR_app, LM.out]; rfl
                                · rw [if_neg (by omega), decG_last P3.out (by omega)]; rfl
                              case measure => simp [intOf]; have := J2.out; omega
                            · have HD := Lib.hid (PB.out 3 (P2'.out.trans (end_bad h6 h7)))
                              obtain ⟨z, hz⟩ : ∃ z, l[j2] = z := ⟨_, rfl⟩
                              have HZ7 := Lib.hid hz
                              rw [hz] at h7
                              have t8 : (z != 15) = true := by rw [bne_iff_ne]; exact h7
                              clear h7 P2' hz
                              go_wp2_with (at_builtin; first | (refine wpList_app rfl _ _ rfl el_pt OP3.out rfl (Rd.own O3.out) rfl (Pts_one _) (by have := LN.out; omega) SZ3.out ?_; intro v4 w4 hown4 hgr4 hb4; obtain ⟨b4, o4, c4, rfl, z1, z2, z3, z4, z5, z6⟩ := last_cells (own_eq hown4 (List.length_append).symm (Pts_app _ _).symm) PLQ.out a; rw [LM.out] at z5 z6; dsimp only at z5 z6; have O4 := Lib.hid (own_eq hown4 (List.length_append).symm (Pts_app _ _).symm); have B4 := Lib.hid (B3.out.by_ hgr4 (fun k hk => by have := own_ge OP3.out k hk; have := W1.out; omega) (fun e => NE2.out e.symm)); have OV4 := Lib.hid (kept2 OV3.out hgr4 OLT.out (own_ge OP3.out)); have RS4 : Hid (∀ r ∈ rows, r.rd w4 (Fr w.heap.size u6)) := (fun r hr => ((RS3.out r hr : Rd _ _ _ _ _ _).by_ (by decide) hgr4 (fun b hb e => by have := own_ge OP3.out b e.symm; have := hb.2; omega)).into fun b hb => hb.1); have R4 : Hid (PRow.rd w4 (Fr w.heap.size u6) ⟨.slice (some ⟨b4, o4, none⟩) (q.length + 1) c4, ps ++ q⟩) := ((Rd.own_from O4.out).into fun b hb => ⟨by have := W1.out; omega, by intro e; have := OLT.out _ e.symm; omega⟩); have b40 := B4.out.cell 0; have b41 := B4.out.cell 1; have f40 := B4.out.free 0; have f41 := (B4.out.set 0 (.int .i64 mx)).free 1; have B5 : Hid (BoxH w w.heap.size #[.int .i64 mx, .int .i64 my] 137 ((w4.setCell ⟨w.heap.size, 0, none⟩ (.int .i64 mx)).setCell ⟨w.heap.size, 1, none⟩ (.int .i64 my))) := ((B4.out.set 0 (.int .i64 mx)).set 1 (.int .i64 my)); have OV5 := Lib.hid (own_set (j := 1) (u := .int .i64 my) (own_set (j := 0) (u := .int .i64 mx) OV4.out hNE.out) hNE.out); have RS5 : Hid (∀ r ∈ rows, r.rd ((w4.setCell ⟨w.heap.size, 0, none⟩ (.int .i64 mx)).setCell ⟨w.heap.size, 1, none⟩ (.int .i64 my)) (Fr w.heap.size u6)) := (fun r hr => Fr.put (Fr.put (RS4.out r hr) (Nat.le_refl _)) (Nat.le_refl _)); have R5 : Hid (PRow.rd ((w4.setCell ⟨w.heap.size, 0, none⟩ (.int .i64 mx)).setCell ⟨w.heap.size, 1, none⟩ (.int .i64 my)) (Fr w.heap.size u6) ⟨.slice (some ⟨b4, o4, none⟩) (q.length + 1) c4, ps ++ q⟩) := (Fr.put (Fr.put R4.out (Nat.le_refl _)) (Nat.le_refl _)); have c6 : ((w4.setCell ⟨w.heap.size, 0, none⟩ (.int .i64 mx)).setCell ⟨w.heap.size, 1, none⟩ (.int .i64 my)).cell? ⟨b, o + j2, none⟩ = some (.int .u32 z) := ((CA.out j2 h6 _ B5.out.grow).trans (by rw [HZ7.out])); clear hown4 hgr4 hb4 z1 z2 z3 z4 OV3 OP3 RS3 B3 O3 B4 OV4 RS4 R4) | (refine wpList_newAt (w0 := w) rfl _ _ rfl el_prow OV5.out rfl 1 _ (by rw [size_setCell, size_setCell]) _ rfl (by decide) rfl (by simp [Value.oneCell']) (by have := MR.out; omega) B5.out.grow ⟨Nat.le_refl _, B5.out.grow.size⟩ ?_; intro v7 w7 hown7 hg7 hgr7 hb7; have O7 := Lib.hid hown7; have B7 := Lib.hid (B5.out.by_ hgr7 (fun k hk => own_ge OV5.out k hk) (fun e => hNE.out e.symm)); have R7 := Lib.hid (Fr.app RS5.out R5.out hgr7 hb7); have NE7 := Lib.hid (ins_ne hNE.out B5.out.lt hb7); clear hown7 hg7 hgr7 hb7))
                              exact HR.out.1 3 HD.out _ B5.out.grow
                          · have HD := Lib.hid (PB.out 2 (P2'.out.trans (end_short (by omega))))
                            have t8 : decide (l.length ≤ j2) = true := decide_eq_true (by omega)
                            clear h6 P2'
                            go_wp2_with (at_builtin; first | (refine wpList_app rfl _ _ rfl el_pt OP3.out rfl (Rd.own O3.out) rfl (Pts_one _) (by have := LN.out; omega) SZ3.out ?_; intro v4 w4 hown4 hgr4 hb4; obtain ⟨b4, o4, c4, rfl, z1, z2, z3, z4, z5, z6⟩ := last_cells (own_eq hown4 (List.length_append).symm (Pts_app _ _).symm) PLQ.out a; rw [LM.out] at z5 z6; dsimp only at z5 z6; have O4 := Lib.hid (own_eq hown4 (List.length_append).symm (Pts_app _ _).symm); have B4 := Lib.hid (B3.out.by_ hgr4 (fun k hk => by have := own_ge OP3.out k hk; have := W1.out; omega) (fun e => NE2.out e.symm)); have OV4 := Lib.hid (kept2 OV3.out hgr4 OLT.out (own_ge OP3.out)); have RS4 : Hid (∀ r ∈ rows, r.rd w4 (Fr w.heap.size u6)) := (fun r hr => ((RS3.out r hr : Rd _ _ _ _ _ _).by_ (by decide) hgr4 (fun b hb e => by have := own_ge OP3.out b e.symm; have := hb.2; omega)).into fun b hb => hb.1); have R4 : Hid (PRow.rd w4 (Fr w.heap.size u6) ⟨.slice (some ⟨b4, o4, none⟩) (q.length + 1) c4, ps ++ q⟩) := ((Rd.own_from O4.out).into fun b hb => ⟨by have := W1.out; omega, by intro e; have := OLT.out _ e.symm; omega⟩); have b40 := B4.out.cell 0; have b41 := B4.out.cell 1; have f40 := B4.out.free 0; have f41 := (B4.out.set 0 (.int .i64 mx)).free 1; have B5 : Hid (BoxH w w.heap.size #[.int .i64 mx, .int .i64 my] 137 ((w4.setCell ⟨w.heap.size, 0, none⟩ (.int .i64 mx)).setCell ⟨w.heap.size, 1, none⟩ (.int .i64 my))) := ((B4.out.set 0 (.int .i64 mx)).set 1 (.int .i64 my)); have OV5 := Lib.hid (own_set (j := 1) (u := .int .i64 my) (own_set (j := 0) (u := .int .i64 mx) OV4.out hNE.out) hNE.out); have RS5 : Hid (∀ r ∈ rows, r.rd ((w4.setCell ⟨w.heap.size, 0, none⟩ (.int .i64 mx)).setCell ⟨w.heap.size, 1, none⟩ (.int .i64 my)) (Fr w.heap.size u6)) := (fun r hr => Fr.put (Fr.put (RS4.out r hr) (Nat.le_refl _)) (Nat.le_refl _)); have R5 : Hid (PRow.rd ((w4.setCell ⟨w.heap.size, 0, none⟩ (.int .i64 mx)).setCell ⟨w.heap.size, 1, none⟩ (.int .i64 my)) (Fr w.heap.size u6) ⟨.slice (some ⟨b4, o4, none⟩) (q.length + 1) c4, ps ++ q⟩) := (Fr.put (Fr.put R4.out (Nat.le_refl _)) (Nat.le_refl _));  clear hown4 hgr4 hb4 z1 z2 z3 z4 OV3 OP3 RS3 B3 O3 B4 OV4 RS4 R4) | (refine wpList_newAt (w0 := w) rfl _ _ rfl el_prow OV5.out rfl 1 _ (by rw [size_setCell, size_setCell]) _ rfl (by decide) rfl (by simp [Value.oneCell']) (by have := MR.out; omega) B5.out.grow ⟨Nat.le_refl _, B5.out.grow.size⟩ ?_; intro v7 w7 hown7 hg7 hgr7 hb7; have O7 := Lib.hid hown7; have B7 := Lib.hid (B5.out.by_ hgr7 (fun k hk => own_ge OV5.out k hk) (fun e => hNE.out e.symm)); have R7 := Lib.hid (Fr.app RS5.out R5.out hgr7 hb7); have NE7 := Lib.hid (ins_ne hNE.out B5.out.lt hb7); clear hown7 hg7 hgr7 hb7))
                            exact HR.out.1 2 HD.out _ B5.out.grow
                        · have k6 : (kind == 3) = false := by rw [beq_eq_false_iff_ne]; exact h3
                          have P3 := Lib.hid (P2.out.trans (end_no h3))
                          clear P2 h3
                          go_wp2_with (at_builtin; first | (refine wpList_app rfl _ _ rfl el_pt OP3.out rfl (Rd.own O3.out) rfl (Pts_one _) (by have := LN.out; omega) SZ3.out ?_; intro v4 w4 hown4 hgr4 hb4; obtain ⟨b4, o4, c4, rfl, z1, z2, z3, z4, z5, z6⟩ := last_cells (own_eq hown4 (List.length_append).symm (Pts_app _ _).symm) PLQ.out a; rw [LM.out] at z5 z6; dsimp only at z5 z6; have O4 := Lib.hid (own_eq hown4 (List.length_append).symm (Pts_app _ _).symm); have B4 := Lib.hid (B3.out.by_ hgr4 (fun k hk => by have := own_ge OP3.out k hk; have := W1.out; omega) (fun e => NE2.out e.symm)); have OV4 := Lib.hid (kept2 OV3.out hgr4 OLT.out (own_ge OP3.out)); have RS4 : Hid (∀ r ∈ rows, r.rd w4 (Fr w.heap.size u6)) := (fun r hr => ((RS3.out r hr : Rd _ _ _ _ _ _).by_ (by decide) hgr4 (fun b hb e => by have := own_ge OP3.out b e.symm; have := hb.2; omega)).into fun b hb => hb.1); have R4 : Hid (PRow.rd w4 (Fr w.heap.size u6) ⟨.slice (some ⟨b4, o4, none⟩) (q.length + 1) c4, ps ++ q⟩) := ((Rd.own_from O4.out).into fun b hb => ⟨by have := W1.out; omega, by intro e; have := OLT.out _ e.symm; omega⟩); have b40 := B4.out.cell 0; have b41 := B4.out.cell 1; have f40 := B4.out.free 0; have f41 := (B4.out.set 0 (.int .i64 mx)).free 1; have B5 : Hid (BoxH w w.heap.size #[.int .i64 mx, .int .i64 my] 137 ((w4.setCell ⟨w.heap.size, 0, none⟩ (.int .i64 mx)).setCell ⟨w.heap.size, 1, none⟩ (.int .i64 my))) := ((B4.out.set 0 (.int .i64 mx)).set 1 (.int .i64 my)); have OV5 := Lib.hid (own_set (j := 1) (u := .int .i64 my) (own_set (j := 0) (u := .int .i64 mx) OV4.out hNE.out) hNE.out); have RS5 : Hid (∀ r ∈ rows, r.rd ((w4.setCell ⟨w.heap.size, 0, none⟩ (.int .i64 mx)).setCell ⟨w.heap.size, 1, none⟩ (.int .i64 my)) (Fr w.heap.size u6)) := (fun r hr => Fr.put (Fr.put (RS4.out r hr) (Nat.le_refl _)) (Nat.le_refl _)); have R5 : Hid (PRow.rd ((w4.setCell ⟨w.heap.size, 0, none⟩ (.int .i64 mx)).setCell ⟨w.heap.size, 1, none⟩ (.int .i64 my)) (Fr w.heap.size u6) ⟨.slice (some ⟨b4, o4, none⟩) (q.length + 1) c4, ps ++ q⟩) := (Fr.put (Fr.put R4.out (Nat.le_refl _)) (Nat.le_refl _));  clear hown4 hgr4 hb4 z1 z2 z3 z4 OV3 OP3 RS3 B3 O3 B4 OV4 RS4 R4) | (refine wpList_newAt (w0 := w) rfl _ _ rfl el_prow OV5.out rfl 1 _ (by rw [size_setCell, size_setCell]) _ rfl (by decide) rfl (by simp [Value.oneCell']) (by have := MR.out; omega) B5.out.grow ⟨Nat.le_refl _, B5.out.grow.size⟩ ?_; intro v7 w7 hown7 hg7 hgr7 hb7; have O7 := Lib.hid hown7; have B7 := Lib.hid (B5.out.by_ hgr7 (fun k hk => own_ge OV5.out k hk) (fun e => hNE.out e.symm)); have R7 := Lib.hid (Fr.app RS5.out R5.out hgr7 hb7); have NE7 := Lib.hid (ins_ne hNE.out B5.out.lt hb7); clear hown7 hg7 hgr7 hb7))
                          go_roundw
                          case rel =>
                            refine ⟨j2, fu - 1, ⟨mx, my⟩, rows ++ [PRow.mk (.slice (some ⟨b4, o4, none⟩) (q.length + 1) c4) (ps ++ q)], rfl, B7.out, own_eq O7.out (by simp) (by simp), R7.out, NE7.out, (by have := J2.out; omega), NM.out, ⟨by rw [List.length_append, List.length_singleton]; have := hBD.out; have := J2.out; omega, by have := hBD.out; have := J2.out; omega⟩, ?_⟩
                            show _ = _
                            have hh : decS kind l = preR (rows.map PRow.l) (decG fu kind a (l.drop i)) := PD.out
                            obtain ⟨fu', hfu⟩ : ∃ fu', fu = fu' + 1 := ⟨fu - 1, by have := hBD.out; omega⟩
                            have hj0 : j2 ≠ 0 := by have := J2.out; omega
                            rw [hh, hfu, List.map_append]
                            by_cases hjl : j2 < l.length
                            · rw [if_pos (.inr hjl), decG_more P3.out hjl, preR_app, LM.out]; rfl
                            · rw [if_neg (by omega), decG_last P3.out (by omega)]; rfl
                          case measure => simp [intOf]; have := J2.out; omega
                  · have t1 : (x % 8 != 2) = true := by rw [bne_iff_ne]; exact g1'
                    have HD := Lib.hid (PB.out 3 (pathS_e2 CG4.out (CB.out (.inl g1'))))
                    clear g1'
                    go_wp2
                    exact HR.out.1 3 HD.out _ B2.out.grow
                · have HD := Lib.hid (PB.out 2 (pathS_e2 CG4.out (cmd_end (by omega))))
                  have t6 : decide (l.length ≤ j) = true := decide_eq_true (by omega)
                  clear h5
                  go_wp2
                  exact HR.out.1 2 HD.out _ B2.out.grow
        · have t1 : (x % 8 != 1) = true := by rw [bne_iff_ne]; exact g1
          have HD := Lib.hid (PB.out 3 (pathS_e1 (CB.out (.inl g1))))
          clear g1
          go_wp2
          exact HR.out.1 3 HD.out _ hB.out.grow
      · have z0 : ((i : Int) == 0) = false := by rw [beq_eq_false_iff_ne]; omega
        clear hz
        by_cases g1 : x % 8 = 1
        · have t1 : (x % 8 != 1) = false := by rw [bne_eq_false_iff_eq]; exact g1
          by_cases g2 : x / 8 < 1
          · have t2 : decide (x / 8 < 1) = true := decide_eq_true g2
            have HD := Lib.hid (PB.out 3 (pathS_e1 (CB.out (.inr (.inl g2)))))
            clear g1 g2
            go_wp2
            exact HR.out.1 3 HD.out _ hB.out.grow
          · have t2 : decide (x / 8 < 1) = false := decide_eq_false g2
            by_cases g3 : 1 < x / 8
            · have t3 : decide (1 < x / 8) = true := decide_eq_true g3
              have HD := Lib.hid (PB.out 3 (pathS_e1 (CB.out (.inr (.inr g3)))))
              clear g1 g2 g3
              go_wp2
              exact HR.out.1 3 HD.out _ hB.out.grow
            · have CG2 := Lib.hid (CG.out (by omega))
              have hx9 : x = 9 := by omega
              clear g1 g2 g3 t1 t2 CB CG hx
              subst hx9
              have CG3 : Hid (cmdS 1 1 1 a (l.drop i) = ptsS 1 a (l.drop (i + 1))) := CG2.out
              clear CG2
              go_wp2_with fail
              clear z0 t5
              go_at_call 102
              refine P9.out _ _ (i + 1) 1 (by omega) rfl a wr hB.out.grow hNA.out h0 (by decide) _ ?_ ?_
              · intro e he he0 w' hg'
                have HD := Lib.hid (PB.out e (pathS_e1 (CG3.out.trans he)))
                have t4 : (e != 0) = true := by rw [bne_iff_ne]; exact he0
                have G1 := Lib.hid (hB.out.grow.tr hg')
                clear he he0 hg'
                go_wp2
                exact HR.out.1 e HD.out _ G1.out
              · intro ps j hps hj hpl hij v1 w1 hO1 hg1 hn1
                have CG4 := Lib.hid (CG3.out.trans hps)
                have O1 := Lib.hid hO1
                have G1 := Lib.hid (hB.out.grow.tr hg1)
                have B1 := Lib.hid (hB.out.tr hg1)
                have OV := Lib.hid (own_grow hO.out hg1)
                have RS1 : Hid (∀ r ∈ rows, r.rd w1 (fun b => Fr w.heap.size u6 b ∧ b < wr.heap.size)) := fun r hr => (Rd.and_lt (hRS.out r hr) (by decide)).gr2 (by decide) hg1
                obtain ⟨b2, o2, cc2, rfl, y1, y2, y3, y4, y5, y6⟩ := last_cells hO1 hpl a
                have W1 : Hid (w.heap.size < wr.heap.size) := hB.out.lt
                have OLT : Hid (∀ k, u6.ownBlock = some k → k < wr.heap.size) := fun k hk => (hO.out.lt k hk).2
                have JN : Hid (i < j) := by show _ < _; omega
                have NQ := Lib.hid hn1
                have PL := Lib.hid hpl
                have b0 := B1.out.cell 0
                have b1 := B1.out.cell 1
                have f0 := B1.out.free 0
                have f1 := B1.out.free 1
                have HQ : Hid (∃ q, lastPt a ps = q) := ⟨_, rfl⟩
                obtain ⟨q, hq⟩ := HQ.out
                have LQ := Lib.hid hq
                rw [hq] at y5 y6 NQ
                obtain ⟨lx, ly⟩ := q
                dsimp only at y5 y6
                simp only [Nat.zero_mul, Nat.add_zero] at y5 y6
                have B2 : Hid (BoxH w w.heap.size #[.int .i64 lx, .int .i64 ly] 137 ((w1.setCell ⟨w.heap.size, 0, none⟩ (.int .i64 lx)).setCell ⟨w.heap.size, 1, none⟩ (.int .i64 ly))) := (B1.out.set 0 (.int .i64 lx)).set 1 (.int .i64 ly)
                have g1 := (B1.out.set 0 (.int .i64 lx)).free 1
                have OV2 := Lib.hid (own_set (j := 1) (u := .int .i64 ly) (own_set (j := 0) (u := .int .i64 lx) OV.out hNE.out) hNE.out)
                have RS2 : Hid (∀ r ∈ rows, r.rd ((w1.setCell ⟨w.heap.size, 0, none⟩ (.int .i64 lx)).setCell ⟨w.heap.size, 1, none⟩ (.int .i64 ly)) (fun b => Fr w.heap.size u6 b ∧ b < wr.heap.size)) := fun r hr => Rd.put (Rd.put (RS1.out r hr) (by decide) (fun b hb => by have := hb.1.1; omega)) (by decide) (fun b hb => by have := hb.1.1; omega)
                have WR2 : Hid (wr.heap.size ≤ ((w1.setCell ⟨w.heap.size, 0, none⟩ (.int .i64 lx)).setCell ⟨w.heap.size, 1, none⟩ (.int .i64 ly)).heap.size) := by rw [size_setCell, size_setCell]; exact hg1.size
                have NE2 : Hid ((Value.slice (some ⟨b2, o2, none⟩) (0 + 1) cc2).ownBlock ≠ some w.heap.size) := fun e => by have := (O1.out.lt _ e).1; have := W1.out; omega
                have OP2 := Lib.hid (own_set (j := 1) (u := .int .i64 ly) (own_set (j := 0) (u := .int .i64 lx) O1.out NE2.out) NE2.out)
                clear hps hpl hij hO1 hg1 hn1 hq HQ CG3 B1 OV RS1 hB hO hRS O1 G1 a0 a1 c0
                by_cases h5 : j < l.length
                · have c5 : ((w1.setCell ⟨w.heap.size, 0, none⟩ (.int .i64 lx)).setCell ⟨w.heap.size, 1, none⟩ (.int .i64 ly)).cell? ⟨b, o + j, none⟩ = some (.int .u32 l[j]) := CA.out j h5 _ B2.out.grow
                  have d0 := B2.out.cell 0
                  have d1 := B2.out.cell 1
                  have hx := HU.out l[j] (List.getElem_mem h5)
                  have CB : Hid ((l[j] % 8 ≠ 2 ∨ l[j] / 8 < kind - 1 ∨ (536870912 : Int) < l[j] / 8) → cmdS 2 (kind - 1) 536870912 (lastPt a ps) (l.drop j) = .error 3) := fun h => cmd_bad h5 h
                  have CG : Hid (¬ (l[j] % 8 ≠ 2 ∨ l[j] / 8 < kind - 1 ∨ (536870912 : Int) < l[j] / 8) → cmdS 2 (kind - 1) 536870912 (lastPt a ps) (l.drop j) = ptsS (l[j] / 8).toNat (lastPt a ps) (l.drop (j + 1))) := fun h => cmd_go h5 h
                  generalize l[j] = x at *
                  by_cases g1' : x % 8 = 2
                  · have t1 : (x % 8 != 2) = false := by rw [bne_eq_false_iff_eq]; exact g1'
                    by_cases g2 : x / 8 < kind - 1
                    · have t2 : decide (x / 8 < kind - 1) = true := decide_eq_true g2
                      have HD := Lib.hid (PB.out 3 (pathS_e2 CG4.out (CB.out (.inr (.inl g2)))))
                      clear g1' g2
                      go_wp2
                      exact HR.out.1 3 HD.out _ B2.out.grow
                    · have t2 : decide (x / 8 < kind - 1) = false := decide_eq_false g2
                      have CG2 := Lib.hid (CG.out (by omega))
                      obtain ⟨n, hn⟩ : ∃ n : Nat, x / 8 = (n : Int) := ⟨(x / 8).toNat, by omega⟩
                      have HN : Hid (n ≤ 536870912) := by show _ ≤ _; omega
                      have HNX := Lib.hid hn
                      rw [hn, Int.toNat_natCast] at CG2
                      clear g1' g2 hn CB CG
                      go_wp2_with fail
                      clear d0 d1 c5 b0 b1 f0 f1 g1 y5 y6 t1 t2
                      generalize (w1.setCell ⟨w.heap.size, 0, none⟩ (.int .i64 lx)).setCell ⟨w.heap.size, 1, none⟩ (.int .i64 ly) = w2 at *
                      go_at_call 102
                      refine P9.out _ _ (j + 1) n (by omega) HNX.out ⟨lx, ly⟩ w2 B2.out.grow NQ.out h5 HN.out _ ?_ ?_
                      · intro e he he0 w' hg'
                        have HD := Lib.hid (PB.out e (pathS_e2 CG4.out (CG2.out.trans (by rw [LQ.out]; exact he))))
                        have t4 : (e != 0) = true := by rw [bne_iff_ne]; exact he0
                        have G1 := Lib.hid (B2.out.grow.tr hg')
                        clear he he0 hg'
                        go_wp2
                        exact HR.out.1 e HD.out _ G1.out
                      · intro q j2 hps hj2 hpl hij v3 w3 hO3 hg3 hn3
                        have P2 := Lib.hid (pathS_o2 CG4.out (CG2.out.trans (by rw [LQ.out]; exact hps)))
                        have J2 : Hid (i < j2 ∧ j2 ≤ l.length) := by show _ ∧ _; have := JN.out; omega
                        have PLQ : Hid ((ps ++ q).length = q.length + 1) := by show _ = _; rw [List.length_append, PL.out]; omega
                        have LN : Hid (ps.length + q.length ≤ 2000) := by
                          show _ ≤ _
                          have := (cmdS_len (CG2.out.trans (by rw [LQ.out]; exact hps))).2
                          rw [List.length_drop] at this
                          have := HLEN.out; have := PL.out
                          omega
                        have lq : q.length ≤ 2000 := by have := LN.out; omega
                        have O3 := Lib.hid hO3
                        have B3 := Lib.hid (B2.out.tr hg3)
                        have OV3 := Lib.hid (own_grow OV2.out hg3)
                        have OP3 := Lib.hid (own_grow OP2.out hg3)
                        have RS3 : Hid (∀ r ∈ rows, r.rd w3 (fun b => Fr w.heap.size u6 b ∧ b < wr.heap.size)) := fun r hr => (RS2.out r hr : Rd _ _ _ _ _ _).gr2 (by decide) hg3
                        have SZ3 : Hid (wr.heap.size ≤ w3.heap.size) := Nat.le_trans WR2.out hg3.size
                        have NM : Hid (Near (lastPt a (ps ++ q))) := by
                          show Near _
                          rw [← lastPt_app, LQ.out]
                          exact hn3
                        obtain ⟨Q2, hQ2⟩ : ∃ Q2, lastPt a (ps ++ q) = Q2 := ⟨_, rfl⟩
                        rw [hQ2] at NM
                        have LM := Lib.hid hQ2
                        obtain ⟨mx, my⟩ := Q2
                        obtain ⟨X3, cc3, hv3⟩ := own_slice hO3
                        subst hv3
                        clear hps hpl hij hO3 hg3 hn3 hj2 hQ2 h5 B2 OV2 OP2 RS2 CG2 CG4 HNX hx
                        by_cases h3 : kind = 3
                        · have k6 : (kind == 3) = true := by rw [beq_iff_eq]; exact h3
                          have P2' : Hid (pathS kind a (l.drop i) = endS 3 (ps ++ q) (l.drop j2)) := by have := P2.out; rw [h3] at this ⊢; exact this
                          clear P2 h3
                          by_cases h6 : j2 < l.length
                          · by_cases h7 : l[j2] = 15
                            · have P3 := Lib.hid (P2'.out.trans (end_go h6 h7))
                              have HZ7 := Lib.hid h7
                              clear h7 P2'
                              go_wp2_with (at_builtin; first | (refine wpList_app rfl _ _ rfl el_pt OP3.out rfl (Rd.own O3.out) rfl (Pts_one _) (by have := LN.out; omega) SZ3.out ?_; intro v4 w4 hown4 hgr4 hb4; obtain ⟨b4, o4, c4, rfl, z1, z2, z3, z4, z5, z6⟩ := last_cells (own_eq hown4 (List.length_append).symm (Pts_app _ _).symm) PLQ.out a; rw [LM.out] at z5 z6; dsimp only at z5 z6; have O4 := Lib.hid (own_eq hown4 (List.length_append).symm (Pts_app _ _).symm); have B4 := Lib.hid (B3.out.by_ hgr4 (fun k hk => by have := own_ge OP3.out k hk; have := W1.out; omega) (fun e => NE2.out e.symm)); have OV4 := Lib.hid (kept2 OV3.out hgr4 OLT.out (own_ge OP3.out)); have RS4 : Hid (∀ r ∈ rows, r.rd w4 (Fr w.heap.size u6)) := (fun r hr => ((RS3.out r hr : Rd _ _ _ _ _ _).by_ (by decide) hgr4 (fun b hb e => by have := own_ge OP3.out b e.symm; have := hb.2; omega)).into fun b hb => hb.1); have R4 : Hid (PRow.rd w4 (Fr w.heap.size u6) ⟨.slice (some ⟨b4, o4, none⟩) (q.length + 1) c4, ps ++ q⟩) := ((Rd.own_from O4.out).into fun b hb => ⟨by have := W1.out; omega, by intro e; have := OLT.out _ e.symm; omega⟩); have b40 := B4.out.cell 0; have b41 := B4.out.cell 1; have f40 := B4.out.free 0; have f41 := (B4.out.set 0 (.int .i64 mx)).free 1; have B5 : Hid (BoxH w w.heap.size #[.int .i64 mx, .int .i64 my] 137 ((w4.setCell ⟨w.heap.size, 0, none⟩ (.int .i64 mx)).setCell ⟨w.heap.size, 1, none⟩ (.int .i64 my))) := ((B4.out.set 0 (.int .i64 mx)).set 1 (.int .i64 my)); have OV5 := Lib.hid (own_set (j := 1) (u := .int .i64 my) (own_set (j := 0) (u := .int .i64 mx) OV4.out hNE.out) hNE.out); have RS5 : Hid (∀ r ∈ rows, r.rd ((w4.setCell ⟨w.heap.size, 0, none⟩ (.int .i64 mx)).setCell ⟨w.heap.size, 1, none⟩ (.int .i64 my)) (Fr w.heap.size u6)) := (fun r hr => Fr.put (Fr.put (RS4.out r hr) (Nat.le_refl _)) (Nat.le_refl _)); have R5 : Hid (PRow.rd ((w4.setCell ⟨w.heap.size, 0, none⟩ (.int .i64 mx)).setCell ⟨w.heap.size, 1, none⟩ (.int .i64 my)) (Fr w.heap.size u6) ⟨.slice (some ⟨b4, o4, none⟩) (q.length + 1) c4, ps ++ q⟩) := (Fr.put (Fr.put R4.out (Nat.le_refl _)) (Nat.le_refl _)); have c6 : ((w4.setCell ⟨w.heap.size, 0, none⟩ (.int .i64 mx)).setCell ⟨w.heap.size, 1, none⟩ (.int .i64 my)).cell? ⟨b, o + j2, none⟩ = some (.int .u32 15) := ((CA.out j2 h6 _ B5.out.grow).trans (by rw [HZ7.out])); clear hown4 hgr4 hb4 z1 z2 z3 z4 OV3 OP3 RS3 B3 O3 B4 OV4 RS4 R4) | (refine wpList_newAt (w0 := w) rfl _ _ rfl el_prow OV5.out rfl 1 _ (by rw [size_setCell, size_setCell]) _ rfl (by decide) rfl (by simp [Value.oneCell']) (by have := MR.out; omega) B5.out.grow ⟨Nat.le_refl _, B5.out.grow.size⟩ ?_; intro v7 w7 hown7 hg7 hgr7 hb7; have O7 := Lib.hid hown7; have B7 := Lib.hid (B5.out.by_ hgr7 (fun k hk => own_ge OV5.out k hk) (fun e => hNE.out e.symm)); have R7 := Lib.hid (Fr.app RS5.out R5.out hgr7 hb7); have NE7 := Lib.hid (ins_ne hNE.out B5.out.lt hb7); clear hown7 hg7 hgr7 hb7))
                              go_roundw
                              case rel =>
                                refine ⟨(j2 + 1), fu - 1, ⟨mx, my⟩, rows ++ [PRow.mk (.slice (some ⟨b4, o4, none⟩) (q.length + 1) c4) (ps ++ q)], (by rw [show ((j2 + 1 : Nat) : Int) = (j2 : Int) + 1 by omega]), B7.out, own_eq O7.out (by simp) (by simp), R7.out, NE7.out, (by have := J2.out; omega), NM.out, ⟨by rw [List.length_append, List.length_singleton]; have := hBD.out; have := J2.out; omega, by have := hBD.out; have := J2.out; omega⟩, ?_⟩
                                show _ = _
                                have hh : decS kind l = preR (rows.map PRow.l) (decG fu kind a (l.drop i)) := PD.out
                                obtain ⟨fu', hfu⟩ : ∃ fu', fu = fu' + 1 := ⟨fu - 1, by have := hBD.out; omega⟩
                                have hj0 : (j2 + 1) ≠ 0 := by have := J2.out; omega
                                rw [hh, hfu, List.map_append]
                                by_cases hjl : (j2 + 1) < l.length
                                · rw [if_pos (.inr hjl), decG_more P3.out hjl, preR_app, LM.out]; rfl
                                · rw [if_neg (by omega), decG_last P3.out (by omega)]; rfl
                              case measure => simp [intOf]; have := J2.out; omega
                            · have HD := Lib.hid (PB.out 3 (P2'.out.trans (end_bad h6 h7)))
                              obtain ⟨z, hz⟩ : ∃ z, l[j2] = z := ⟨_, rfl⟩
                              have HZ7 := Lib.hid hz
                              rw [hz] at h7
                              have t8 : (z != 15) = true := by rw [bne_iff_ne]; exact h7
                              clear h7 P2' hz
                              go_wp2_with (at_builtin; first | (refine wpList_app rfl _ _ rfl el_pt OP3.out rfl (Rd.own O3.out) rfl (Pts_one _) (by have := LN.out; omega) SZ3.out ?_; intro v4 w4 hown4 hgr4 hb4; obtain ⟨b4, o4, c4, rfl, z1, z2, z3, z4, z5, z6⟩ := last_cells (own_eq hown4 (List.length_append).symm (Pts_app _ _).symm) PLQ.out a; rw [LM.out] at z5 z6; dsimp only at z5 z6; have O4 := Lib.hid (own_eq hown4 (List.length_append).symm (Pts_app _ _).symm); have B4 := Lib.hid (B3.out.by_ hgr4 (fun k hk => by have := own_ge OP3.out k hk; have := W1.out; omega) (fun e => NE2.out e.symm)); have OV4 := Lib.hid (kept2 OV3.out hgr4 OLT.out (own_ge OP3.out)); have RS4 : Hid (∀ r ∈ rows, r.rd w4 (Fr w.heap.size u6)) := (fun r hr => ((RS3.out r hr : Rd _ _ _ _ _ _).by_ (by decide) hgr4 (fun b hb e => by have := own_ge OP3.out b e.symm; have := hb.2; omega)).into fun b hb => hb.1); have R4 : Hid (PRow.rd w4 (Fr w.heap.size u6) ⟨.slice (some ⟨b4, o4, none⟩) (q.length + 1) c4, ps ++ q⟩) := ((Rd.own_from O4.out).into fun b hb => ⟨by have := W1.out; omega, by intro e; have := OLT.out _ e.symm; omega⟩); have b40 := B4.out.cell 0; have b41 := B4.out.cell 1; have f40 := B4.out.free 0; have f41 := (B4.out.set 0 (.int .i64 mx)).free 1; have B5 : Hid (BoxH w w.heap.size #[.int .i64 mx, .int .i64 my] 137 ((w4.setCell ⟨w.heap.size, 0, none⟩ (.int .i64 mx)).setCell ⟨w.heap.size, 1, none⟩ (.int .i64 my))) := ((B4.out.set 0 (.int .i64 mx)).set 1 (.int .i64 my)); have OV5 := Lib.hid (own_set (j := 1) (u := .int .i64 my) (own_set (j := 0) (u := .int .i64 mx) OV4.out hNE.out) hNE.out); have RS5 : Hid (∀ r ∈ rows, r.rd ((w4.setCell ⟨w.heap.size, 0, none⟩ (.int .i64 mx)).setCell ⟨w.heap.size, 1, none⟩ (.int .i64 my)) (Fr w.heap.size u6)) := (fun r hr => Fr.put (Fr.put (RS4.out r hr) (Nat.le_refl _)) (Nat.le_refl _)); have R5 : Hid (PRow.rd ((w4.setCell ⟨w.heap.size, 0, none⟩ (.int .i64 mx)).setCell ⟨w.heap.size, 1, none⟩ (.int .i64 my)) (Fr w.heap.size u6) ⟨.slice (some ⟨b4, o4, none⟩) (q.length + 1) c4, ps ++ q⟩) := (Fr.put (Fr.put R4.out (Nat.le_refl _)) (Nat.le_refl _)); have c6 : ((w4.setCell ⟨w.heap.size, 0, none⟩ (.int .i64 mx)).setCell ⟨w.heap.size, 1, none⟩ (.int .i64 my)).cell? ⟨b, o + j2, none⟩ = some (.int .u32 z) := ((CA.out j2 h6 _ B5.out.grow).trans (by rw [HZ7.out])); clear hown4 hgr4 hb4 z1 z2 z3 z4 OV3 OP3 RS3 B3 O3 B4 OV4 RS4 R4) | (refine wpList_newAt (w0 := w) rfl _ _ rfl el_prow OV5.out rfl 1 _ (by rw [size_setCell, size_setCell]) _ rfl (by decide) rfl (by simp [Value.oneCell']) (by have := MR.out; omega) B5.out.grow ⟨Nat.le_refl _, B5.out.grow.size⟩ ?_; intro v7 w7 hown7 hg7 hgr7 hb7; have O7 := Lib.hid hown7; have B7 := Lib.hid (B5.out.by_ hgr7 (fun k hk => own_ge OV5.out k hk) (fun e => hNE.out e.symm)); have R7 := Lib.hid (Fr.app RS5.out R5.out hgr7 hb7); have NE7 := Lib.hid (ins_ne hNE.out B5.out.lt hb7); clear hown7 hg7 hgr7 hb7))
                              exact HR.out.1 3 HD.out _ B5.out.grow
                          · have HD := Lib.hid (PB.out 2 (P2'.out.trans (end_short (by omega))))
                            have t8 : decide (l.length ≤ j2) = true := decide_eq_true (by omega)
                            clear h6 P2'
                            go_wp2_with (at_builtin; first | (refine wpList_app rfl _ _ rfl el_pt OP3.out rfl (Rd.own O3.out) rfl (Pts_one _) (by have := LN.out; omega) SZ3.out ?_; intro v4 w4 hown4 hgr4 hb4; obtain ⟨b4, o4, c4, rfl, z1, z2, z3, z4, z5, z6⟩ := last_cells (own_eq hown4 (List.length_append).symm (Pts_app _ _).symm) PLQ.out a; rw [LM.out] at z5 z6; dsimp only at z5 z6; have O4 := Lib.hid (own_eq hown4 (List.length_append).symm (Pts_app _ _).symm); have B4 := Lib.hid (B3.out.by_ hgr4 (fun k hk => by have := own_ge OP3.out k hk; have := W1.out; omega) (fun e => NE2.out e.symm)); have OV4 := Lib.hid (kept2 OV3.out hgr4 OLT.out (own_ge OP3.out)); have RS4 : Hid (∀ r ∈ rows, r.rd w4 (Fr w.heap.size u6)) := (fun r hr => ((RS3.out r hr : Rd _ _ _ _ _ _).by_ (by decide) hgr4 (fun b hb e => by have := own_ge OP3.out b e.symm; have := hb.2; omega)).into fun b hb => hb.1); have R4 : Hid (PRow.rd w4 (Fr w.heap.size u6) ⟨.slice (some ⟨b4, o4, none⟩) (q.length + 1) c4, ps ++ q⟩) := ((Rd.own_from O4.out).into fun b hb => ⟨by have := W1.out; omega, by intro e; have := OLT.out _ e.symm; omega⟩); have b40 := B4.out.cell 0; have b41 := B4.out.cell 1; have f40 := B4.out.free 0; have f41 := (B4.out.set 0 (.int .i64 mx)).free 1; have B5 : Hid (BoxH w w.heap.size #[.int .i64 mx, .int .i64 my] 137 ((w4.setCell ⟨w.heap.size, 0, none⟩ (.int .i64 mx)).setCell ⟨w.heap.size, 1, none⟩ (.int .i64 my))) := ((B4.out.set 0 (.int .i64 mx)).set 1 (.int .i64 my)); have OV5 := Lib.hid (own_set (j := 1) (u := .int .i64 my) (own_set (j := 0) (u := .int .i64 mx) OV4.out hNE.out) hNE.out); have RS5 : Hid (∀ r ∈ rows, r.rd ((w4.setCell ⟨w.heap.size, 0, none⟩ (.int .i64 mx)).setCell ⟨w.heap.size, 1, none⟩ (.int .i64 my)) (Fr w.heap.size u6)) := (fun r hr => Fr.put (Fr.put (RS4.out r hr) (Nat.le_refl _)) (Nat.le_refl _)); have R5 : Hid (PRow.rd ((w4.setCell ⟨w.heap.size, 0, none⟩ (.int .i64 mx)).setCell ⟨w.heap.size, 1, none⟩ (.int .i64 my)) (Fr w.heap.size u6) ⟨.slice (some ⟨b4, o4, none⟩) (q.length + 1) c4, ps ++ q⟩) := (Fr.put (Fr.put R4.out (Nat.le_refl _)) (Nat.le_refl _));  clear hown4 hgr4 hb4 z1 z2 z3 z4 OV3 OP3 RS3 B3 O3 B4 OV4 RS4 R4) | (refine wpList_newAt (w0 := w) rfl _ _ rfl el_prow OV5.out rfl 1 _ (by rw [size_setCell, size_setCell]) _ rfl (by decide) rfl (by simp [Value.oneCell']) (by have := MR.out; omega) B5.out.grow ⟨Nat.le_refl _, B5.out.grow.size⟩ ?_; intro v7 w7 hown7 hg7 hgr7 hb7; have O7 := Lib.hid hown7; have B7 := Lib.hid (B5.out.by_ hgr7 (fun k hk => own_ge OV5.out k hk) (fun e => hNE.out e.symm)); have R7 := Lib.hid (Fr.app RS5.out R5.out hgr7 hb7); have NE7 := Lib.hid (ins_ne hNE.out B5.out.lt hb7); clear hown7 hg7 hgr7 hb7))
                            exact HR.out.1 2 HD.out _ B5.out.grow
                        · have k6 : (kind == 3) = false := by rw [beq_eq_false_iff_ne]; exact h3
                          have P3 := Lib.hid (P2.out.trans (end_no h3))
                          clear P2 h3
                          go_wp2_with (at_builtin; first | (refine wpList_app rfl _ _ rfl el_pt OP3.out rfl (Rd.own O3.out) rfl (Pts_one _) (by have := LN.out; omega) SZ3.out ?_; intro v4 w4 hown4 hgr4 hb4; obtain ⟨b4, o4, c4, rfl, z1, z2, z3, z4, z5, z6⟩ := last_cells (own_eq hown4 (List.length_append).symm (Pts_app _ _).symm) PLQ.out a; rw [LM.out] at z5 z6; dsimp only at z5 z6; have O4 := Lib.hid (own_eq hown4 (List.length_append).symm (Pts_app _ _).symm); have B4 := Lib.hid (B3.out.by_ hgr4 (fun k hk => by have := own_ge OP3.out k hk; have := W1.out; omega) (fun e => NE2.out e.symm)); have OV4 := Lib.hid (kept2 OV3.out hgr4 OLT.out (own_ge OP3.out)); have RS4 : Hid (∀ r ∈ rows, r.rd w4 (Fr w.heap.size u6)) := (fun r hr => ((RS3.out r hr : Rd _ _ _ _ _ _).by_ (by decide) hgr4 (fun b hb e => by have := own_ge OP3.out b e.symm; have := hb.2; omega)).into fun b hb => hb.1); have R4 : Hid (PRow.rd w4 (Fr w.heap.size u6) ⟨.slice (some ⟨b4, o4, none⟩) (q.length + 1) c4, ps ++ q⟩) := ((Rd.own_from O4.out).into fun b hb => ⟨by have := W1.out; omega, by intro e; have := OLT.out _ e.symm; omega⟩); have b40 := B4.out.cell 0; have b41 := B4.out.cell 1; have f40 := B4.out.free 0; have f41 := (B4.out.set 0 (.int .i64 mx)).free 1; have B5 : Hid (BoxH w w.heap.size #[.int .i64 mx, .int .i64 my] 137 ((w4.setCell ⟨w.heap.size, 0, none⟩ (.int .i64 mx)).setCell ⟨w.heap.size, 1, none⟩ (.int .i64 my))) := ((B4.out.set 0 (.int .i64 mx)).set 1 (.int .i64 my)); have OV5 := Lib.hid (own_set (j := 1) (u := .int .i64 my) (own_set (j := 0) (u := .int .i64 mx) OV4.out hNE.out) hNE.out); have RS5 : Hid (∀ r ∈ rows, r.rd ((w4.setCell ⟨w.heap.size, 0, none⟩ (.int .i64 mx)).setCell ⟨w.heap.size, 1, none⟩ (.int .i64 my)) (Fr w.heap.size u6)) := (fun r hr => Fr.put (Fr.put (RS4.out r hr) (Nat.le_refl _)) (Nat.le_refl _)); have R5 : Hid (PRow.rd ((w4.setCell ⟨w.heap.size, 0, none⟩ (.int .i64 mx)).setCell ⟨w.heap.size, 1, none⟩ (.int .i64 my)) (Fr w.heap.size u6) ⟨.slice (some ⟨b4, o4, none⟩) (q.length + 1) c4, ps ++ q⟩) := (Fr.put (Fr.put R4.out (Nat.le_refl _)) (Nat.le_refl _));  clear hown4 hgr4 hb4 z1 z2 z3 z4 OV3 OP3 RS3 B3 O3 B4 OV4 RS4 R4) | (refine wpList_newAt (w0 := w) rfl _ _ rfl el_prow OV5.out rfl 1 _ (by rw [size_setCell, size_setCell]) _ rfl (by decide) rfl (by simp [Value.oneCell']) (by have := MR.out; omega) B5.out.grow ⟨Nat.le_refl _, B5.out.grow.size⟩ ?_; intro v7 w7 hown7 hg7 hgr7 hb7; have O7 := Lib.hid hown7; have B7 := Lib.hid (B5.out.by_ hgr7 (fun k hk => own_ge OV5.out k hk) (fun e => hNE.out e.symm)); have R7 := Lib.hid (Fr.app RS5.out R5.out hgr7 hb7); have NE7 := Lib.hid (ins_ne hNE.out B5.out.lt hb7); clear hown7 hg7 hgr7 hb7))
                          go_roundw
                          case rel =>
                            refine ⟨j2, fu - 1, ⟨mx, my⟩, rows ++ [PRow.mk (.slice (some ⟨b4, o4, none⟩) (q.length + 1) c4) (ps ++ q)], rfl, B7.out, own_eq O7.out (by simp) (by simp), R7.out, NE7.out, (by have := J2.out; omega), NM.out, ⟨by rw [List.length_append, List.length_singleton]; have := hBD.out; have := J2.out; omega, by have := hBD.out; have := J2.out; omega⟩, ?_⟩
                            show _ = _
                            have hh : decS kind l = preR (rows.map PRow.l) (decG fu kind a (l.drop i)) := PD.out
                            obtain ⟨fu', hfu⟩ : ∃ fu', fu = fu' + 1 := ⟨fu - 1, by have := hBD.out; omega⟩
                            have hj0 : j2 ≠ 0 := by have := J2.out; omega
                            rw [hh, hfu, List.map_append]
                            by_cases hjl : j2 < l.length
                            · rw [if_pos (.inr hjl), decG_more P3.out hjl, preR_app, LM.out]; rfl
                            · rw [if_neg (by omega), decG_last P3.out (by omega)]; rfl
                          case measure => simp [intOf]; have := J2.out; omega
                  · have t1 : (x % 8 != 2) = true := by rw [bne_iff_ne]; exact g1'
                    have HD := Lib.hid (PB.out 3 (pathS_e2 CG4.out (CB.out (.inl g1'))))
                    clear g1'
                    go_wp2
                    exact HR.out.1 3 HD.out _ B2.out.grow
                · have HD := Lib.hid (PB.out 2 (pathS_e2 CG4.out (cmd_end (by omega))))
                  have t6 : decide (l.length ≤ j) = true := decide_eq_true (by omega)
                  clear h5
                  go_wp2
                  exact HR.out.1 2 HD.out _ B2.out.grow
        · have t1 : (x % 8 != 1) = true := by rw [bne_iff_ne]; exact g1
          have HD := Lib.hid (PB.out 3 (pathS_e1 (CB.out (.inl g1))))
          clear g1
          go_wp2
          exact HR.out.1 3 HD.out _ hB.out.grow
    · by_cases hz : i = 0
      · have HD : Hid (decS kind l = .error 2) := by
          show _ = _
          rw [hst.out, if_pos (.inl hz)]
          exact preR_err (by have := hBD.out; omega) (pathS_e1 (cmd_end (by omega)))
        have z0 : ((i : Int) == 0) = true := by rw [beq_iff_eq]; omega
        have t5 : ((l.length : Int) == 0) = true := by rw [beq_iff_eq]; omega
        clear hz h0
        go_wp2
        exact HR.out.1 2 HD.out _ hB.out.grow
      · have z0 : ((i : Int) == 0) = false := by rw [beq_eq_false_iff_ne]; omega
        have HD : Hid (decS kind l = .ok (rows.map PRow.l)) := by show _ = _; rw [hst.out, if_neg (by omega)]
        clear hz
        go_wp2
        exact HR.out.2 rows HD.out _ _ hO.out (fun r hr => (hRS.out r hr).into fun b hb => Nat.le_of_lt hb.1) hB.out.grow
end Go.Proofs.YtfdjdfobhkmlpaaDoor
