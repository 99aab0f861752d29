/-
  The reference's Decode (portolanref09): points.
-/
import Derived.Test.YtehffeglgdcogaaChecked
import Derived.Test.YtehffeglgdcogaaPDec2
import Derived.Test.YtehffeglgdcogaaPRef
namespace Go.Proofs.Ytehffeglgdcogaa
open Go.RowKit B

set_option maxRecDepth 100000 in
set_option maxHeartbeats 4000000 in
theorem rdecode_bad (kind : Int) (l : List Int) (lv : Value) (w : World) (hk : ¬ (1 ≤ kind ∧ kind ≤ 3)) {R : Ending → World → Prop} (hR : DecH kind l w R) :
    Calls Try.prog 36 #[.int .i64 kind, lv] w R := by
  have HR := Lib.hid (hR.1 1 (by unfold decS; rw [if_pos (by omega)]))
  clear hR
  by_cases h1 : kind < 1
  · have t1 : decide (kind < 1) = true := decide_eq_true h1
    clear hk h1
    go_enter Try.func36, Try.ntmps36
    go_wp2
    exact HR.out _ (Grow.refl w)
  · have t1 : decide (kind < 1) = false := decide_eq_false h1
    have t2 : decide (3 < kind) = true := decide_eq_true (by omega)
    clear hk h1
    go_enter Try.func36, Try.ntmps36
    go_wp2
    exact HR.out _ (Grow.refl w)

theorem last_cells {w : World} {base n : Nat} {e : TypeId} {v : Value} {ps : List Pt} (h : w.ownsRow base e 2 v ps.length (Pts ps)) (hn : ps.length = n + 1) (a : Pt) :
    ∃ b o c, v = .slice (some ⟨b, o, none⟩) (n + 1) c ∧ n + 1 ≤ c ∧ c ≤ 2 ^ 63 - 1 ∧ base ≤ b ∧ b < w.heap.size ∧ w.cell? ⟨b, o + n * 2, none⟩ = some (.int .i64 (lastPt a ps).x) ∧ w.cell? ⟨b, o + n * 2 + 1, none⟩ = some (.int .i64 (lastPt a ps).y) := by
  have hb := h.lt
  obtain ⟨_, A, c, rfl, h1, h2, h3, h4⟩ := (Rd.own h)
  obtain ⟨b, o, rfl, hS, hc⟩ := h4 (by omega)
  have hlt : n < ps.length := by omega
  have e1 := flat_cells Pt.cells_len (Grow.refl w) (hb b hS.symm).2 hc hlt
  have hl : lastPt a ps = ps[n] := by
    unfold lastPt
    rw [List.getLast?_eq_getElem?, show ps.length - 1 = n by omega, List.getElem?_eq_getElem hlt]
    rfl
  rw [hl]
  refine ⟨b, o, c, by rw [hn], by omega, h2, (hb b hS.symm).1, (hb b hS.symm).2, ?_, e1 1 _ rfl⟩
  exact e1 0 _ rfl

set_option maxRecDepth 100000 in
set_option maxHeartbeats 8000000 in
theorem rdecode_one (l : List Int) (lv : Value) (S : Nat → Prop) (w : World) (hl : Rd w S 1 lv l.length (U32 l)) (hu : ∀ x ∈ l, 0 ≤ x ∧ x ≤ 4294967295) (hlen : l.length ≤ 1000) {R : Ending → World → Prop} (hR : DecH 1 l w R) :
    Calls Try.prog 36 #[.int .i64 1, lv] w R := by
  have HR := Lib.hid hR
  have hl := hl.lt (by decide)
  have HL := Lib.hid hl
  have HU := Lib.hid hu
  have HLEN := Lib.hid hlen
  obtain ⟨_, A, c, rfl, h1, h2, h3, h4⟩ := hl
  unfold maxLen at h2
  clear hR hu h3
  have BX := Lib.hid (BoxH.laid #[.int .i64 0, .int .i64 0] 77 (Grow.refl w))
  go_enter Try.func36, Try.ntmps36
  go_wp2
  generalize w.alloc (.cells #[.int .i64 0, .int .i64 0] 77) = wa at *
  go_loopw [6, 8] (fun s i' wr => ∃ (i : Nat) (a : Pt) (rows : List PRow), i' = .int .i64 i ∧ Hid (BoxH w w.heap.size #[.int .i64 a.x, .int .i64 a.y] 77 wr) ∧ Hid (wr.ownsRow w.heap.size 75 1 s rows.length (rows.map PRow.v)) ∧ Hid (∀ r ∈ rows, r.rd wr (Fr w.heap.size s)) ∧ Hid (s.ownBlock ≠ some w.heap.size) ∧ i ≤ l.length ∧ Hid ((i = 0 ∧ rows = [] ∧ a = ⟨0, 0⟩) ∨ (0 < i ∧ decS 1 l = if i < l.length then .error 3 else .ok (rows.map PRow.l)))) (fun _ i' _ => l.length - (intOf i').toNat)
  case atStart => exact ⟨0, ⟨0, 0⟩, [], rfl, BX.out, World.ownsRow_nil _ _ _ _, (fun r hr => by cases hr), (by simp [Value.ownBlock] : (Value.slice none 0 0).ownBlock ≠ some w.heap.size), Nat.zero_le _, .inl ⟨rfl, rfl, rfl⟩⟩
  case round =>
    clear BX
    obtain ⟨i, a, rows, rfl, hB, hO, hRS, hNE, hi, hst⟩ := hrel
    rcases hst.out with ⟨e1, e2, e3⟩ | ⟨hp, hd⟩
    · subst e1 e2 e3
      by_cases h0 : 0 < l.length
      · obtain ⟨b, o, rfl, hS, hc⟩ := h4 h0
        have hx := HU.out l[0] (List.getElem_mem h0)
        have C0 : Hid (∀ W, Grow w W → W.cell? ⟨b, o, none⟩ = some (.int .u32 l[0])) := fun W hW => (hW.cell (p := ⟨b, o + 0, none⟩) hS).trans (hc 0 _ (U32_at l 0 h0))
        have CS : Hid (cmdS 1 1 536870912 ⟨0, 0⟩ l = if l[0] % 8 ≠ 1 ∨ l[0] / 8 < 1 ∨ (536870912 : Int) < l[0] / 8 then .error 3 else ptsS (l[0] / 8).toNat ⟨0, 0⟩ (l.drop 1)) := by
          show _ = _
          cases l with
          | nil => simp at h0
          | cons x l => rfl
        have c0 := C0.out _ hB.out.grow
        generalize l[0] = x at *
        by_cases hcc : x % 8 ≠ 1 ∨ x / 8 < 1 ∨ (536870912 : Int) < x / 8
        · have HD : Hid (decS 1 l = .error 3) := by
            show _ = _
            unfold decS
            rw [if_neg (by omega), if_pos rfl]
            unfold dec1
            rw [CS.out, if_pos hcc]
          clear CS
          by_cases h1 : x % 8 = 1
          · have t1 : (x % 8 != 1) = false := by rw [bne_eq_false_iff_eq]; exact h1
            have t2 : decide (x / 8 < 1) = true := decide_eq_true (by omega)
            clear hcc h1
            go_wp2
            exact HR.out.1 3 HD.out _ hB.out.grow
          · have t1 : (x % 8 != 1) = true := by rw [bne_iff_ne]; exact h1
            clear hcc h1
            go_wp2
            exact HR.out.1 3 HD.out _ hB.out.grow
        · have t1 : (x % 8 != 1) = false := by rw [bne_eq_false_iff_eq]; omega
          have t2 : decide (x / 8 < 1) = false := decide_eq_false (by omega)
          have CS2 : Hid (cmdS 1 1 536870912 ⟨0, 0⟩ l = ptsS (x / 8).toNat ⟨0, 0⟩ (l.drop 1)) := by have := CS.out; rw [if_neg hcc] at this; exact this
          obtain ⟨n, hn⟩ : ∃ n : Nat, x / 8 = (n : Int) := ⟨(x / 8).toNat, by omega⟩
          have HN : Hid (1 ≤ n ∧ n ≤ 536870912) := by show _ ∧ _; omega
          rw [hn, Int.toNat_natCast] at CS2
          have P9 := Lib.hid fun W (hg : Grow w W) (R : Ending → World → Prop) => points9_any l (.slice (some ⟨b, o, none⟩) l.length c) 1 n ⟨0, 0⟩ _ W (HL.out.gr (by decide) hg) HU.out ⟨⟨by decide, by decide⟩, by decide, by decide⟩ HLEN.out h0 HN.out.2 (R := R)
          rw [← hn] at P9
          have a0 := hB.out.cell 0
          have a1 := hB.out.cell 1
          have N1 := Lib.hid hn
          clear hcc CS hn
          by_cases h1n : 1 < x / 8
          · have t3 : decide (1 < x / 8) = true := decide_eq_true h1n
            clear h1n
            go_wp2_with fail
            clear t1 t2 t3
            go_at_call 56
            refine P9.out _ hB.out.grow _ ?_ ?_
            · intro e he w' hg'
              have he0 : e ≠ 0 := by rcases ptsS_err _ _ _ _ he with h | h <;> omega
              have HD : Hid (decS 1 l = .error e) := by
                show _ = _
                unfold decS
                rw [if_neg (by omega), if_pos rfl]
                unfold dec1
                rw [CS2.out, he]
              have t4 : (e != 0) = true := by rw [bne_iff_ne]; exact he0
              have G1 := Lib.hid (hB.out.grow.tr hg')
              clear he he0 hg'
              go_wp2
              exact HR.out.1 e HD.out _ G1.out
            · intro ps j hps hj hjn v1 w1 hO1 hg1 hn1
              have hps2 : ps.length = n := (ptsS_len _ _ _ _ _ hps).2.1
              obtain ⟨n', hn'⟩ : ∃ n', ps.length = n' + 1 := ⟨n - 1, by have := HN.out; omega⟩
              have O1 := Lib.hid hO1
              have G1 := Lib.hid (hB.out.grow.tr hg1)
              have B1 := Lib.hid (hB.out.tr hg1)
              have OV := Lib.hid (own_grow hO.out hg1)
              obtain ⟨b2, o2, cc2, rfl, y1, y2, y3, y4, y5, y6⟩ := last_cells hO1 hn' ⟨0, 0⟩
              have W1 : Hid (w.heap.size < wr.heap.size) := hB.out.lt
              have HPS : Hid (decS 1 l = if j < l.length then .error 3 else .ok [ps]) := by
                show _ = _
                unfold decS
                rw [if_neg (by omega), if_pos rfl]
                unfold dec1
                rw [CS2.out, hps]
                by_cases hjl : j < l.length
                · rw [if_pos hjl, List.drop_eq_getElem_cons hjl]
                · rw [if_neg hjl, List.drop_eq_nil_of_le (by omega)]
              have JN : Hid (0 < j) := by show _ < _; omega
              have b0 := B1.out.cell 0
              have b1 := B1.out.cell 1
              have f0 := B1.out.free 0
              have f1 := B1.out.free 1
              generalize lastPt ⟨0, 0⟩ ps = q at *
              obtain ⟨lx, ly⟩ := q
              dsimp only at y5 y6
              have B2 := Lib.hid ((B1.out.set 0 (.int .i64 lx)).set 1 (.int .i64 ly))
              have g1 := (B1.out.set 0 (.int .i64 lx)).free 1
              have OV2 := Lib.hid (own_set (j := 1) (u := .int .i64 ly) (own_set (j := 0) (u := .int .i64 lx) OV.out hNE.out) hNE.out)
              have R1 : Hid (PRow.rd w1 (Fr w.heap.size u6) ⟨.slice (some ⟨b2, o2, none⟩) (n' + 1) cc2, ps⟩) := (Rd.own_from O1.out).into fun b hb => ⟨by have := W1.out; omega, by intro e; have := (hO.out.lt _ e.symm).2; omega⟩
              have R2 : Hid (PRow.rd ((w1.setCell ⟨w.heap.size, 0, none⟩ (.int .i64 lx)).setCell ⟨w.heap.size, 1, none⟩ (.int .i64 ly)) (Fr w.heap.size u6) ⟨.slice (some ⟨b2, o2, none⟩) (n' + 1) cc2, ps⟩) := Fr.put (Fr.put R1.out (Nat.le_refl _)) (Nat.le_refl _)
              clear hps hps2 hO1 hg1 hn1 hjn
              go_wp2_with (at_builtin; refine wpList_newAt (w0 := w) rfl _ _ rfl el_prow OV2.out rfl 1 _ (by rw [size_setCell, size_setCell]) _ rfl (by decide) rfl (by simp [Value.oneCell']) (by simp) B2.out.grow ⟨Nat.le_refl _, B2.out.grow.size⟩ ?_; intro v7 w7 hown7 hg7 hgr7 hb7; have O7 := Lib.hid hown7; have B7 := Lib.hid (B2.out.by_ hgr7 (fun k hk => own_ge OV2.out k hk) (fun e => hNE.out e.symm)); have R7 := Lib.hid (Fr.app (rows := []) (fun r hr => by cases hr) R2.out hgr7 hb7); have NE7 := Lib.hid (ins_ne hNE.out B2.out.lt hb7); clear hown7 hg7 hgr7 hb7)
              go_roundw
              case rel =>
                refine ⟨j, ⟨lx, ly⟩, [PRow.mk (.slice (some ⟨b2, o2, none⟩) (n' + 1) cc2) ps], rfl, B7.out, own_eq O7.out rfl rfl, R7.out, NE7.out, hj, .inr ⟨JN.out, HPS.out⟩⟩
              case measure => simp [intOf]; have := JN.out; omega
          · have t3 : decide (1 < x / 8) = false := decide_eq_false h1n
            clear h1n
            go_wp2_with fail
            clear t1 t2 t3
            go_at_call 56
            refine P9.out _ hB.out.grow _ ?_ ?_
            · intro e he w' hg'
              have he0 : e ≠ 0 := by rcases ptsS_err _ _ _ _ he with h | h <;> omega
              have HD : Hid (decS 1 l = .error e) := by
                show _ = _
                unfold decS
                rw [if_neg (by omega), if_pos rfl]
                unfold dec1
                rw [CS2.out, he]
              have t4 : (e != 0) = true := by rw [bne_iff_ne]; exact he0
              have G1 := Lib.hid (hB.out.grow.tr hg')
              clear he he0 hg'
              go_wp2
              exact HR.out.1 e HD.out _ G1.out
            · intro ps j hps hj hjn v1 w1 hO1 hg1 hn1
              have hps2 : ps.length = n := (ptsS_len _ _ _ _ _ hps).2.1
              obtain ⟨n', hn'⟩ : ∃ n', ps.length = n' + 1 := ⟨n - 1, by have := HN.out; omega⟩
              have O1 := Lib.hid hO1
              have G1 := Lib.hid (hB.out.grow.tr hg1)
              have B1 := Lib.hid (hB.out.tr hg1)
              have OV := Lib.hid (own_grow hO.out hg1)
              obtain ⟨b2, o2, cc2, rfl, y1, y2, y3, y4, y5, y6⟩ := last_cells hO1 hn' ⟨0, 0⟩
              have W1 : Hid (w.heap.size < wr.heap.size) := hB.out.lt
              have HPS : Hid (decS 1 l = if j < l.length then .error 3 else .ok [ps]) := by
                show _ = _
                unfold decS
                rw [if_neg (by omega), if_pos rfl]
                unfold dec1
                rw [CS2.out, hps]
                by_cases hjl : j < l.length
                · rw [if_pos hjl, List.drop_eq_getElem_cons hjl]
                · rw [if_neg hjl, List.drop_eq_nil_of_le (by omega)]
              have JN : Hid (0 < j) := by show _ < _; omega
              have b0 := B1.out.cell 0
              have b1 := B1.out.cell 1
              have f0 := B1.out.free 0
              have f1 := B1.out.free 1
              generalize lastPt ⟨0, 0⟩ ps = q at *
              obtain ⟨lx, ly⟩ := q
              dsimp only at y5 y6
              have B2 := Lib.hid ((B1.out.set 0 (.int .i64 lx)).set 1 (.int .i64 ly))
              have g1 := (B1.out.set 0 (.int .i64 lx)).free 1
              have OV2 := Lib.hid (own_set (j := 1) (u := .int .i64 ly) (own_set (j := 0) (u := .int .i64 lx) OV.out hNE.out) hNE.out)
              have R1 : Hid (PRow.rd w1 (Fr w.heap.size u6) ⟨.slice (some ⟨b2, o2, none⟩) (n' + 1) cc2, ps⟩) := (Rd.own_from O1.out).into fun b hb => ⟨by have := W1.out; omega, by intro e; have := (hO.out.lt _ e.symm).2; omega⟩
              have R2 : Hid (PRow.rd ((w1.setCell ⟨w.heap.size, 0, none⟩ (.int .i64 lx)).setCell ⟨w.heap.size, 1, none⟩ (.int .i64 ly)) (Fr w.heap.size u6) ⟨.slice (some ⟨b2, o2, none⟩) (n' + 1) cc2, ps⟩) := Fr.put (Fr.put R1.out (Nat.le_refl _)) (Nat.le_refl _)
              clear hps hps2 hO1 hg1 hn1 hjn
              go_wp2_with (at_builtin; refine wpList_newAt (w0 := w) rfl _ _ rfl el_prow OV2.out rfl 1 _ (by rw [size_setCell, size_setCell]) _ rfl (by decide) rfl (by simp [Value.oneCell']) (by simp) B2.out.grow ⟨Nat.le_refl _, B2.out.grow.size⟩ ?_; intro v7 w7 hown7 hg7 hgr7 hb7; have O7 := Lib.hid hown7; have B7 := Lib.hid (B2.out.by_ hgr7 (fun k hk => own_ge OV2.out k hk) (fun e => hNE.out e.symm)); have R7 := Lib.hid (Fr.app (rows := []) (fun r hr => by cases hr) R2.out hgr7 hb7); have NE7 := Lib.hid (ins_ne hNE.out B2.out.lt hb7); clear hown7 hg7 hgr7 hb7)
              go_roundw
              case rel =>
                refine ⟨j, ⟨lx, ly⟩, [PRow.mk (.slice (some ⟨b2, o2, none⟩) (n' + 1) cc2) ps], rfl, B7.out, own_eq O7.out rfl rfl, R7.out, NE7.out, hj, .inr ⟨JN.out, HPS.out⟩⟩
              case measure => simp [intOf]; have := JN.out; omega
      · have HD : Hid (decS 1 l = .error 2) := by
          show _ = _
          have : l = [] := List.eq_nil_of_length_eq_zero (by omega)
          subst this
          rfl
        have t0 : ((l.length : Int) == 0) = true := by rw [beq_iff_eq]; omega
        clear h0
        go_wp2
        exact HR.out.1 2 HD.out _ hB.out.grow
    · have t0 : ((i : Int) == 0) = false := by rw [beq_eq_false_iff_ne]; omega
      by_cases hlt : i < l.length
      · obtain ⟨b, o, rfl, hS, hc⟩ := h4 (by omega)
        have hx := HU.out l[i] (List.getElem_mem hlt)
        have C0 : wr.cell? ⟨b, o + i, none⟩ = some (.int .u32 l[i]) := (hB.out.grow.cell (p := ⟨b, o + i, none⟩) hS).trans (hc i _ (U32_at l i hlt))
        rw [if_pos hlt] at hd
        have HD := Lib.hid hd
        have t3 : decide (0 < i) = true := decide_eq_true hp
        have t5 : ((l.length : Int) == 0) = false := by rw [beq_eq_false_iff_ne]; omega
        generalize l[i] = x at *
        clear hd
        by_cases g1 : x % 8 = 1
        · have t1 : (x % 8 != 1) = false := by rw [bne_eq_false_iff_eq]; exact g1
          by_cases g2 : x / 8 < 1
          · have t2 : decide (x / 8 < 1) = true := decide_eq_true g2
            clear g1 g2
            go_wp2
            exact HR.out.1 3 HD.out _ hB.out.grow
          · have t2 : decide (x / 8 < 1) = false := decide_eq_false g2
            by_cases g3 : 1 < x / 8
            · have t4 : decide (1 < x / 8) = true := decide_eq_true g3
              clear g1 g2 g3
              go_wp2
              exact HR.out.1 3 HD.out _ hB.out.grow
            · have t4 : decide (1 < x / 8) = false := decide_eq_false g3
              clear g1 g2 g3
              go_wp2
              exact HR.out.1 3 HD.out _ hB.out.grow
        · have t1 : (x % 8 != 1) = true := by rw [bne_iff_ne]; exact g1
          clear g1
          go_wp2
          exact HR.out.1 3 HD.out _ hB.out.grow
      · obtain rfl : i = l.length := by omega
        rw [if_neg (by omega)] at hd
        have HD := Lib.hid hd
        have O8 := Lib.hid hO.out
        clear hd
        go_wp2
        exact HR.out.2 rows HD.out _ _ hO.out (fun r hr => (hRS.out r hr).into fun b hb => Nat.le_of_lt hb.1) hB.out.grow
end Go.Proofs.Ytehffeglgdcogaa
