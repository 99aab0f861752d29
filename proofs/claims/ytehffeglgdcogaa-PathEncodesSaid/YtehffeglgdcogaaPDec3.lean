/-
  path.Decode: lines and polygons.
-/
import Derived.Test.YtehffeglgdcogaaChecked
import Derived.Test.YtehffeglgdcogaaPDec2
namespace Go.Proofs.Ytehffeglgdcogaa
open Go.RowKit B

theorem preR_nil (r : Except Int (List (List Pt))) : preR [] r = r := by cases r <;> rfl
theorem ne_nil (rb : Nat) : ∀ k, k ≤ rb → (Value.slice none 0 0).ownBlock ≠ some k := fun k _ e => by cases e

set_option maxRecDepth 100000 in
set_option maxHeartbeats 8000000 in
theorem decode_more (kind : Int) (l : List Int) (lv : Value) (S : Nat → Prop) (w : World) (hk : 2 ≤ kind ∧ kind ≤ 3) (hl : Rd w S 1 lv l.length (U32 l)) (hu : ∀ x ∈ l, 0 ≤ x ∧ x ≤ 4294967295) (hlen : l.length ≤ 1000) {R : Ending → World → Prop} (hR : DecH kind l w R) :
    Calls Try.prog 35 #[.int .i64 kind, lv] w R := by
  have hl := hl.lt (by decide)
  have T0 : Hid ((decide (1 ≤ kind) && decide (kind ≤ 3)) = true) := by show _ = _; simp; omega
  have t1 : (kind == 1) = false := by rw [beq_eq_false_iff_ne]; omega
  have HD0 : Hid (decS kind l = decG (l.length + 1) kind ⟨0, 0⟩ l) := by show _ = _; unfold decS; rw [if_neg (by omega), if_neg (by omega)]
  have HK := Lib.hid hk
  have HLEN := Lib.hid hlen
  clear hk
  have HR := Lib.hid hR
  have hmf := hmf
  have HL := Lib.hid hl
  have HU := Lib.hid hu
  obtain ⟨_, A, c, rfl, h1, h2, h3, h4⟩ := hl
  unfold maxLen at h2
  clear hR h3 h4 hu
  have BP := Lib.hid (((BoxH.laid #[.slice none 0 0] 40 (Grow.refl w)).tr ((Grow.refl _).al (.cells #[.int .i64 0] 25))).tr ((Grow.refl _).al (.cells #[.slice A l.length c, .int .i64 0, .int .i64 0, .int .i64 0] 87)))
  have BQ : Hid (BoxH w (w.heap.size + 1) #[.int .i64 0] 25 (((w.alloc (.cells #[.slice none 0 0] 40)).alloc (.cells #[.int .i64 0] 25)).alloc (.cells #[.slice A l.length c, .int .i64 0, .int .i64 0, .int .i64 0] 87))) := by
    have := ((BoxH.laid (w := w.alloc (.cells #[.slice none 0 0] 40)) #[.int .i64 0] 25 ((Grow.refl w).al _)).tr ((Grow.refl _).al (.cells #[.slice A l.length c, .int .i64 0, .int .i64 0, .int .i64 0] 87)))
    rw [World.size_alloc] at this
    exact this
  have BR : Hid (RdrB w (w.heap.size + 2) (.slice A l.length c) 0 ⟨0, 0⟩ (((w.alloc (.cells #[.slice none 0 0] 40)).alloc (.cells #[.int .i64 0] 25)).alloc (.cells #[.slice A l.length c, .int .i64 0, .int .i64 0, .int .i64 0] 87))) := by
    have := (BoxH.laid (w := (w.alloc (.cells #[.slice none 0 0] 40)).alloc (.cells #[.int .i64 0] 25)) #[.slice A l.length c, .int .i64 0, .int .i64 0, .int .i64 0] 87 (((Grow.refl w).al _).al _))
    rw [World.size_alloc, World.size_alloc] at this
    exact this
  go_enter_defers Try.func35, Try.ntmps35
  go_wp2_with fail
  go_at_call 52
  refine known_any _ _ ?_
  rw [T0.out]
  go_wp2_with fail
  generalize ((w.alloc (.cells #[.slice none 0 0] 40)).alloc (.cells #[.int .i64 0] 25)).alloc (.cells #[.slice A l.length c, .int .i64 0, .int .i64 0, .int .i64 0] 87) = wa at *
  rw [show w.heap.size + 2 = w.heap.size + 1 + 1 from rfl] at BR
  have PA := Lib.hid fun j b W (h : RdrB w (w.heap.size + 1 + 1) (.slice A l.length c) j b W) (hn : Near b) (R : Ending → World → Prop) hE hR => path_any kind l (.slice A l.length c) (w.heap.size + 1 + 1) j b w W HK.out h HL.out HU.out hn HLEN.out (R := R) hE hR
  have N0 : Hid (w.heap.size < w.heap.size + 1 ∧ w.heap.size + 1 < w.heap.size + 1 + 1) := ⟨by omega, by omega⟩
  generalize w.heap.size + 1 = qb at *
  generalize qb + 1 = rb at *
  clear t1 hlen hl
  go_loopw [7] (fun f wr => ∃ (b : Bool) (i fu : Nat) (a : Pt) (rows : List PRow) (v : Value), f = .bool b ∧ Hid (BoxH w w.heap.size #[v] 40 wr) ∧ Hid (BoxH w qb #[.int .i64 0] 25 wr) ∧ Hid (RdrB w rb (.slice A l.length c) i a wr) ∧ Hid (wr.ownsRow w.heap.size 75 1 v rows.length (rows.map PRow.v)) ∧ Hid (∀ k, k ≤ rb → v.ownBlock ≠ some k) ∧ Hid (∀ r ∈ rows, r.rd wr (Fr rb v)) ∧ Hid (Near a) ∧ Hid (rows.length ≤ i ∧ i ≤ l.length ∧ l.length < i + fu) ∧ Hid (decS kind l = if b = true ∨ i < l.length then preR (rows.map PRow.l) (decG fu kind a (l.drop i)) else .ok (rows.map PRow.l))) (fun _ wr => l.length - (intOf ((wr.cell? ⟨rb, 1, none⟩).getD undef)).toNat)
  case atStart => exact ⟨true, 0, l.length + 1, ⟨0, 0⟩, [], .slice none 0 0, rfl, BP.out, BQ.out, BR.out, World.ownsRow_nil _ _ _ _, ne_nil rb, (fun r hr => by cases hr), ⟨⟨by decide, by decide⟩, by decide, by decide⟩, ⟨Nat.zero_le _, Nat.zero_le _, by omega⟩, by
    show _ = _
    rw [if_pos (.inl rfl), HD0.out]
    exact (preR_nil _).symm⟩
  case round =>
    clear BP BQ BR HD0
    obtain ⟨b, i, fu, a, rows, v, rfl, BP, BQ, BR, O, NE, RS, NA, BD, HD⟩ := hrel
    obtain ⟨X, cx, hvx⟩ := own_slice O.out
    subst hvx
    have r1 := (BR.out : BoxH w rb _ _ wr).cell 1
    have MS : Hid (l.length - (intOf ((wr.cell? ⟨rb, 1, none⟩).getD undef)).toNat = l.length - i) := by show _ = _; rw [r1]; simp [intOf]
    by_cases hb : b = true ∨ i < l.length
    · have HDB : Hid (decS kind l = preR (rows.map PRow.l) (decG fu kind a (l.drop i))) := by have := HD.out; rw [if_pos hb] at this; exact this
      clear HD
      cases b with
      | true =>
        clear r1
        go_wp2_with fail
        refine wp_region_lexTD (fun W => BoxH w w.heap.size #[.slice X rows.length cx] 40 W) (BP.out.tr (Grow.refl _).dr) 5 [0, 1, 2, 3, 4] (off35) (by kernel_rfl) (by kernel_rfl) (by kernel_rfl) (fun c a d v w hd h => put35 c a d v w hd h) ?_
        iterate 1 (apply lext_take; exact rfl; exact rfl; (intro W hW; have y := hW.cell 0; (try clear hW); go_simp; with_reducible rfl); try simp only [Act.put, List.setIfInBounds_toArray, List.set_cons_zero, List.set_cons_succ])
        iterate 2 (apply lext_take; exact rfl; exact rfl; (intro W hW; (try clear hW); go_simp; with_reducible rfl); try simp only [Act.put, List.setIfInBounds_toArray, List.set_cons_zero, List.set_cons_succ])
        apply lext_turn; exact rfl; exact rfl; exact rfl; intro K hK; go_simp; go_at_call 55; refine PA.out i a _ (BR.out.tr (Grow.refl _).dr) NA.out _ ?_ ?_
        · intro e he w' hg'
          refine door_stop w.heap.size qb (.slice X rows.length cx) (.int .i64 0) e w w' ?_ ?_ ?_ rfl rfl ?_
          · exact (BP.out.tr (Grow.refl _).dr).by_ hg' (fun k hk => by injection hk with hk; have := N0.out; omega) (fun e => by injection e with e; have := N0.out; omega)
          · exact (BQ.out.tr (Grow.refl _).dr).by_ hg' (fun k hk => by injection hk with hk; have := N0.out; omega) (fun e => by injection e with e; have := N0.out; omega)
          · have := N0.out; omega
          · intro w3 hg3
            refine HR.out.1 e ?_ w3 hg3
            obtain ⟨fu', hfu⟩ : ∃ fu', fu = fu' + 1 := ⟨fu - 1, by have := BD.out; omega⟩
            rw [HDB.out, hfu, decG_err he]; rfl
        · intro ps j hps hj v1 w1 hB1 hO1 hg1 hn1
          have hij : i < j := by have := (pathS_len hps).1; rw [List.length_drop, List.length_drop] at this; omega
          have MJ := Lib.hid hij
          have B1 := Lib.hid hB1
          have O1 := Lib.hid hO1
          have J := Lib.hid hj
          have PS := Lib.hid hps
          have NA1 := Lib.hid hn1
          have BP1 := Lib.hid ((BP.out.tr (Grow.refl _).dr).by_ hg1 (fun k hk => by injection hk with hk; have := N0.out; omega) (fun e => by injection e with e; have := N0.out; omega))
          have BQ1 := Lib.hid ((BQ.out.tr (Grow.refl _).dr).by_ hg1 (fun k hk => by injection hk with hk; have := N0.out; omega) (fun e => by injection e with e; have := N0.out; omega))
          have OV1 : Hid (w1.ownsRow w.heap.size 75 1 (.slice X rows.length cx) rows.length (rows.map PRow.v)) := (own_grow O.out (Grow.refl _).dr).kept hg1 (.inr (NE.out rb (Nat.le_refl _)))
          have RS1 : Hid (∀ r ∈ rows, r.rd w1 (Fr rb (.slice X rows.length cx))) := fun r hr => ((RS.out r hr).gr2 (by decide) (Grow.refl _).dr).by_ (by decide) hg1 (fun b hb e => by injection e with e; have := hb.1; omega)
          obtain ⟨X1, cc1, hv1⟩ := own_slice hO1
          subst hv1
          refine hK.out _ _ BP1.out ?_
          have WA : Hid (rb < wr.drew.heap.size) := (BR.out : BoxH w rb _ _ wr).lt
          have OW : Hid (∀ k, (Value.slice X rows.length cx).ownBlock = some k → k < wr.drew.heap.size) := fun k hk => (O.out.lt k hk).2
          have R1 : Hid (PRow.rd w1 (Fr rb (.slice X rows.length cx)) ⟨.slice X1 ps.length cc1, ps⟩) := (Rd.own_from O1.out).into fun b hb => ⟨by have := WA.out; omega, by intro e; have := OW.out b e.symm; omega⟩
          have SZ : Hid (rb < w1.heap.size) := (B1.out : BoxH w rb _ _ w1).lt
          have ML : Hid (rows.length ≤ 1000) := by show _ ≤ _; have := BD.out; have := HLEN.out; omega
          clear hK hB1 hO1 hg1 hn1 hj hps hij BP BQ BR O RS NA
          try simp only [Act.put, List.setIfInBounds_toArray, List.set_cons_zero, List.set_cons_succ]
          apply lext_turn; exact rfl; exact rfl; exact rfl; intro K hK; go_simp; refine hK.out _ _ (BP1.out.tr ((Grow.refl _).al _)) ?_; clear hK; try simp only [Act.put, List.setIfInBounds_toArray, List.set_cons_zero, List.set_cons_succ]
          refine lext_nil ?_
          simp only [List.drop_succ_cons, List.drop_zero]
          go_wp2_with (at_builtin; refine wpList_new (w0 := w) rfl _ _ rfl el_prow OV1.out rfl 1 _ rfl (by decide) rfl (by simp [Value.oneCell']) (by have := ML.out; omega) BP1.out.grow ⟨Nat.le_refl _, BP1.out.grow.size⟩ ?_; intro v4 w4 hown4 hg4 hgr4 hb4; obtain ⟨X4, cc4, hv4⟩ := own_slice hown4; subst hv4; have O4 := Lib.hid hown4; have R4 := Lib.hid (Fr.app RS1.out R1.out hgr4 hb4); have BP4 := Lib.hid (BP1.out.by_ hgr4 (own_ge OV1.out) (fun e => NE.out _ (by have := N0.out; omega) e.symm)); have BQ4 := Lib.hid (BQ1.out.by_ hgr4 (own_ge OV1.out) (fun e => NE.out _ (by have := N0.out; omega) e.symm)); have BR4 := Lib.hid ((B1.out : BoxH w rb _ _ w1).by_ hgr4 (own_ge OV1.out) (fun e => NE.out _ (by have := N0.out; omega) e.symm)); have NE4 : Hid (∀ k, k ≤ rb → (Value.slice X4 (rows.length + 1) cc4).ownBlock ≠ some k) := (fun k hk e => by rcases hb4 with h | h <;> rw [h] at e; exact NE.out k hk e; injection e with e; have := SZ.out; omega); have p4 := BP4.out.cell 0; have f4 := BP4.out.free 0; clear hown4 hg4 hgr4 hb4)
          have BP5 := Lib.hid (BP4.out.set 0 (.slice X4 (rows.length + 1) cc4))
          have BQ5 := Lib.hid (BQ4.out.other (j := 0) (v := .slice X4 (rows.length + 1) cc4) (cc := w.heap.size) (by have := N0.out; omega) (Nat.le_refl _))
          have BR5 := Lib.hid (BR4.out.other (j := 0) (v := .slice X4 (rows.length + 1) cc4) (cc := w.heap.size) (by have := N0.out; omega) (Nat.le_refl _))
          go_roundw
          case rel =>
            refine ⟨false, j, fu - 1, lastPt a ps, rows ++ [PRow.mk (.slice X1 ps.length cc1) ps], _, rfl, BP5.out, BQ5.out, BR5.out, own_eq (own_set O4.out (NE4.out _ (by have := N0.out; omega))) (by simp) (by simp), NE4.out, (fun r hr => Fr.put (R4.out r hr) (by have := N0.out; omega)), NA1.out, ?_, ?_⟩
            · show _ ∧ _ ∧ _
              rw [List.length_append, List.length_singleton]
              have := BD.out; have := MJ.out; have := J.out
              omega
            · show _ = _
              obtain ⟨fu', hfu⟩ : ∃ fu', fu = fu' + 1 := ⟨fu - 1, by have := BD.out; omega⟩
              rw [HDB.out, hfu, List.map_append]
              by_cases hjl : j < l.length
              · rw [if_pos (.inr hjl), decG_more PS.out hjl, preR_app]; rfl
              · rw [if_neg (by simp; omega), decG_last PS.out (by omega)]; rfl
          case measure =>
            have r5 := BR5.out.cell 1
            rw [MS.out, r5]
            simp [intOf]
            have := MJ.out; have := J.out
            omega
      | false =>
        have hlt : i < l.length := by simpa using hb
        have t1 : decide (i < l.length) = true := decide_eq_true hlt
        clear hlt
        go_wp2_with fail
        clear t1
        clear r1
        go_wp2_with fail
        refine wp_region_lexTD (fun W => BoxH w w.heap.size #[.slice X rows.length cx] 40 W) (BP.out.tr (Grow.refl _).dr) 5 [0, 1, 2, 3, 4] (off35) (by kernel_rfl) (by kernel_rfl) (by kernel_rfl) (fun c a d v w hd h => put35 c a d v w hd h) ?_
        iterate 1 (apply lext_take; exact rfl; exact rfl; (intro W hW; have y := hW.cell 0; (try clear hW); go_simp; with_reducible rfl); try simp only [Act.put, List.setIfInBounds_toArray, List.set_cons_zero, List.set_cons_succ])
        iterate 2 (apply lext_take; exact rfl; exact rfl; (intro W hW; (try clear hW); go_simp; with_reducible rfl); try simp only [Act.put, List.setIfInBounds_toArray, List.set_cons_zero, List.set_cons_succ])
        apply lext_turn; exact rfl; exact rfl; exact rfl; intro K hK; go_simp; go_at_call 55; refine PA.out i a _ (BR.out.tr (Grow.refl _).dr) NA.out _ ?_ ?_
        · intro e he w' hg'
          refine door_stop w.heap.size qb (.slice X rows.length cx) (.int .i64 0) e w w' ?_ ?_ ?_ rfl rfl ?_
          · exact (BP.out.tr (Grow.refl _).dr).by_ hg' (fun k hk => by injection hk with hk; have := N0.out; omega) (fun e => by injection e with e; have := N0.out; omega)
          · exact (BQ.out.tr (Grow.refl _).dr).by_ hg' (fun k hk => by injection hk with hk; have := N0.out; omega) (fun e => by injection e with e; have := N0.out; omega)
          · have := N0.out; omega
          · intro w3 hg3
            refine HR.out.1 e ?_ w3 hg3
            obtain ⟨fu', hfu⟩ : ∃ fu', fu = fu' + 1 := ⟨fu - 1, by have := BD.out; omega⟩
            rw [HDB.out, hfu, decG_err he]; rfl
        · intro ps j hps hj v1 w1 hB1 hO1 hg1 hn1
          have hij : i < j := by have := (pathS_len hps).1; rw [List.length_drop, List.length_drop] at this; omega
          have MJ := Lib.hid hij
          have B1 := Lib.hid hB1
          have O1 := Lib.hid hO1
          have J := Lib.hid hj
          have PS := Lib.hid hps
          have NA1 := Lib.hid hn1
          have BP1 := Lib.hid ((BP.out.tr (Grow.refl _).dr).by_ hg1 (fun k hk => by injection hk with hk; have := N0.out; omega) (fun e => by injection e with e; have := N0.out; omega))
          have BQ1 := Lib.hid ((BQ.out.tr (Grow.refl _).dr).by_ hg1 (fun k hk => by injection hk with hk; have := N0.out; omega) (fun e => by injection e with e; have := N0.out; omega))
          have OV1 : Hid (w1.ownsRow w.heap.size 75 1 (.slice X rows.length cx) rows.length (rows.map PRow.v)) := (own_grow O.out (Grow.refl _).dr).kept hg1 (.inr (NE.out rb (Nat.le_refl _)))
          have RS1 : Hid (∀ r ∈ rows, r.rd w1 (Fr rb (.slice X rows.length cx))) := fun r hr => ((RS.out r hr).gr2 (by decide) (Grow.refl _).dr).by_ (by decide) hg1 (fun b hb e => by injection e with e; have := hb.1; omega)
          obtain ⟨X1, cc1, hv1⟩ := own_slice hO1
          subst hv1
          refine hK.out _ _ BP1.out ?_
          have WA : Hid (rb < wr.drew.heap.size) := (BR.out : BoxH w rb _ _ wr).lt
          have OW : Hid (∀ k, (Value.slice X rows.length cx).ownBlock = some k → k < wr.drew.heap.size) := fun k hk => (O.out.lt k hk).2
          have R1 : Hid (PRow.rd w1 (Fr rb (.slice X rows.length cx)) ⟨.slice X1 ps.length cc1, ps⟩) := (Rd.own_from O1.out).into fun b hb => ⟨by have := WA.out; omega, by intro e; have := OW.out b e.symm; omega⟩
          have SZ : Hid (rb < w1.heap.size) := (B1.out : BoxH w rb _ _ w1).lt
          have ML : Hid (rows.length ≤ 1000) := by show _ ≤ _; have := BD.out; have := HLEN.out; omega
          clear hK hB1 hO1 hg1 hn1 hj hps hij BP BQ BR O RS NA
          try simp only [Act.put, List.setIfInBounds_toArray, List.set_cons_zero, List.set_cons_succ]
          apply lext_turn; exact rfl; exact rfl; exact rfl; intro K hK; go_simp; refine hK.out _ _ (BP1.out.tr ((Grow.refl _).al _)) ?_; clear hK; try simp only [Act.put, List.setIfInBounds_toArray, List.set_cons_zero, List.set_cons_succ]
          refine lext_nil ?_
          simp only [List.drop_succ_cons, List.drop_zero]
          go_wp2_with (at_builtin; refine wpList_new (w0 := w) rfl _ _ rfl el_prow OV1.out rfl 1 _ rfl (by decide) rfl (by simp [Value.oneCell']) (by have := ML.out; omega) BP1.out.grow ⟨Nat.le_refl _, BP1.out.grow.size⟩ ?_; intro v4 w4 hown4 hg4 hgr4 hb4; obtain ⟨X4, cc4, hv4⟩ := own_slice hown4; subst hv4; have O4 := Lib.hid hown4; have R4 := Lib.hid (Fr.app RS1.out R1.out hgr4 hb4); have BP4 := Lib.hid (BP1.out.by_ hgr4 (own_ge OV1.out) (fun e => NE.out _ (by have := N0.out; omega) e.symm)); have BQ4 := Lib.hid (BQ1.out.by_ hgr4 (own_ge OV1.out) (fun e => NE.out _ (by have := N0.out; omega) e.symm)); have BR4 := Lib.hid ((B1.out : BoxH w rb _ _ w1).by_ hgr4 (own_ge OV1.out) (fun e => NE.out _ (by have := N0.out; omega) e.symm)); have NE4 : Hid (∀ k, k ≤ rb → (Value.slice X4 (rows.length + 1) cc4).ownBlock ≠ some k) := (fun k hk e => by rcases hb4 with h | h <;> rw [h] at e; exact NE.out k hk e; injection e with e; have := SZ.out; omega); have p4 := BP4.out.cell 0; have f4 := BP4.out.free 0; clear hown4 hg4 hgr4 hb4)
          have BP5 := Lib.hid (BP4.out.set 0 (.slice X4 (rows.length + 1) cc4))
          have BQ5 := Lib.hid (BQ4.out.other (j := 0) (v := .slice X4 (rows.length + 1) cc4) (cc := w.heap.size) (by have := N0.out; omega) (Nat.le_refl _))
          have BR5 := Lib.hid (BR4.out.other (j := 0) (v := .slice X4 (rows.length + 1) cc4) (cc := w.heap.size) (by have := N0.out; omega) (Nat.le_refl _))
          go_roundw
          case rel =>
            refine ⟨false, j, fu - 1, lastPt a ps, rows ++ [PRow.mk (.slice X1 ps.length cc1) ps], _, rfl, BP5.out, BQ5.out, BR5.out, own_eq (own_set O4.out (NE4.out _ (by have := N0.out; omega))) (by simp) (by simp), NE4.out, (fun r hr => Fr.put (R4.out r hr) (by have := N0.out; omega)), NA1.out, ?_, ?_⟩
            · show _ ∧ _ ∧ _
              rw [List.length_append, List.length_singleton]
              have := BD.out; have := MJ.out; have := J.out
              omega
            · show _ = _
              obtain ⟨fu', hfu⟩ : ∃ fu', fu = fu' + 1 := ⟨fu - 1, by have := BD.out; omega⟩
              rw [HDB.out, hfu, List.map_append]
              by_cases hjl : j < l.length
              · rw [if_pos (.inr hjl), decG_more PS.out hjl, preR_app]; rfl
              · rw [if_neg (by simp; omega), decG_last PS.out (by omega)]; rfl
          case measure =>
            have r5 := BR5.out.cell 1
            rw [MS.out, r5]
            simp [intOf]
            have := MJ.out; have := J.out
            omega
    · have HDB : Hid (decS kind l = .ok (rows.map PRow.l)) := by have := HD.out; rw [if_neg hb] at this; exact this
      have hb2 : b = false := by cases b <;> simp_all
      subst hb2
      have t1 : decide (i < l.length) = false := decide_eq_false (by simpa using hb)
      have p1 := BP.out.cell 0
      have f1 := BP.out.free 0
      have q1 := BQ.out.cell 0
      have fq1 := BQ.out.free 0
      have n1 : qb ≠ w.heap.size := by have := N0.out; omega
      have n2 : w.heap.size ≠ qb := by have := N0.out; omega
      clear hb HD
      go_wp2
      exact dec_fin HR.out HDB.out (Nat.le_refl _) N0.out.1 N0.out.2 BP.out BQ.out O.out NE.out RS.out rfl rfl
end Go.Proofs.Ytehffeglgdcogaa
