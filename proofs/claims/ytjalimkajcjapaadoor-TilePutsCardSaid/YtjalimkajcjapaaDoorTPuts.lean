/-
  TilePuts, walked.
-/
import Derived.Test.YtjalimkajcjapaaDoorChecked
import Derived.Test.YtjalimkajcjapaaDoorTBnd
import Derived.Test.YtjalimkajcjapaaDoorTRPut
import Derived.Test.YtjalimkajcjapaaDoorTRRight
import Derived.Test.YtjalimkajcjapaaDoorTRSame
import Derived.Test.YtjalimkajcjapaaDoorTMuch
namespace Go.Proofs.YtjalimkajcjapaaDoor
open Go.RowKit B

theorem lext_turnG {P : Program} {Q : Exit → Act → World → Prop} {L : Act → World → Prop} {G : World → Prop} {a : Act} {w : World} {l : List Oper} {i : Nat} {rest : List Nat} {o : Oper} (ho : nthO l i = some o) (ht : turns o = true) (hw : Region.wanted o (yielded l.toArray a.tmps) = true)
    (h : ∀ K' : Act → World → Prop, Shut (∀ (a' : Act) (w' : World) (G' : World → Prop), (∀ W, G' W → G W) → G' w' → LexT P l.toArray Q L rest G' a' w' → K' a' w') → Oper.wp P o a w K' Q) :
    LexT P l.toArray Q L (i :: rest) G a w :=
  ⟨o, (nthO_eq l i).trans ho, .inr ⟨ht, wpOp_step ((nthO_eq l i).trans ho) fun K' hK => by
    rw [if_pos hw]
    exact h K' fun a' w' G' hGG h0 hl => hK a' w' ⟨G', hGG, h0, hl⟩⟩⟩

theorem plain_t (v : Val) : (plainV v).t.size ≤ v.t.size := by
  unfold plainV
  split
  · exact Nat.le_refl _
  · exact Nat.zero_le _
theorem plain_b {v : Val} (h : U64 v.b) : U64 (plainV v).b := by
  unfold plainV
  split
  · unfold U64; simp
  · exact h
/-- what the statement asks of lengths, of what is put -/
theorem small_ok {L : List LyR} (h : Small L) (hok : ∀ x ∈ L, x.ok) : ∀ x ∈ L, LyOkP x.pl := by
  intro x hx
  obtain ⟨h1, h2, h3⟩ := h.2 x hx
  have ok := hok x hx
  refine ⟨by show x.nm.size ≤ _; omega, by show (x.F.map FtR.pl).length ≤ _; rw [List.length_map]; omega, fun f hf => ?_⟩
  obtain ⟨g, hg, rfl⟩ := List.mem_map.1 (show f ∈ x.F.map FtR.pl from hf)
  obtain ⟨s1, s2, s3⟩ := h3 g hg
  have og := ok.ft g hg
  refine ⟨og.id, ?_, fun p hp => ?_, by show (g.B.map Atr.pl).length ≤ _; rw [List.length_map]; omega, fun a ha => ?_⟩
  · have := encS_tot g.f.ty g.A
    show (encS g.f.ty (g.A.map PRow.l)).length ≤ _
    omega
  · obtain ⟨r, hr, rfl⟩ := List.mem_map.1 (show p ∈ g.A.map PRow.l from hp)
    have := totL_mem hr
    omega
  · obtain ⟨y, hy, rfl⟩ := List.mem_map.1 (show a ∈ g.B.map Atr.pl from ha)
    obtain ⟨t1, t2⟩ := s3 y hy
    have := plain_t y.val
    refine ⟨by show y.key.size ≤ _; omega, plain_b (og.atr y hy).2.2.1, by show (plainV y.val).t.size ≤ _; omega, plain_plain _⟩

set_option maxRecDepth 100000 in
set_option maxHeartbeats 16000000 in
theorem tilePuts_walk (L : List LyR) (lv : Value) (S : Nat → Prop) (w : World) (hl : LysRd w S lv L) (okL : ∀ x ∈ L, x.ok) (rL : Rch L) (hT : Tabs w) {R : Ending → World → Prop}
    (hR : ∀ w', Grow w w' → R (.returned (.bool true)) w') :
    Calls Tryd.prog 3 #[lv] w R := by
  have HR := Lib.hid hR
  have HT := Lib.hid hT
  have LV := Lib.hid fun W (hg : Grow w W) (R : Ending → World → Prop) hR => live10_any W (hT.gr hg) (R := R) hR
  have MA := Lib.hid fun (R : Ending → World → Prop) h1 h2 => muchT_any lv L S w hl okL rL (R := R) h1 h2
  have HL := Lib.hid hl
  have OK := Lib.hid okL
  obtain ⟨A1, A2, A3, hv⟩ := hl.1.form
  subst hv
  clear hR hT rL hl okL
  go_enter Tryd.func3, Tryd.ntmps3
  go_wp2_with fail
  go_at_call 4
  refine MA.out _ ?_ ?_
  · intro w1 hg1
    have G1 := Lib.hid hg1
    clear hg1
    go_wp2_with fail
    go_at_call 5
    refine LV.out _ (G1.out) _ ?_
    intro w9 hg9
    have FIN := Lib.hid (HR.out _ ((G1.out).tr hg9))
    clear hg9 HR LV
    go_wp2
    exact FIN.out
  intro smA w1 hg1
  have G1 := Lib.hid hg1
  have Z := Lib.hid (small_ok smA OK.out)
  have LN : L.length ≤ 10 := smA.1
  have FB : Hid (FewB L) := fun x hx f hf => by have := ((smA.2 x hx).2.2 f hf).2.1; omega
  clear hg1 MA smA
  go_wp2_with fail
  go_at_call 6
  refine tput_any _ L _ w1 (HL.out.gr G1.out) OK.out (HT.out.gr G1.out) (by omega) Z.out ?_ ?_
  · intro hbad w2 hg2
    have G2 := Lib.hid (G1.out.tr hg2)
    have BAD := Lib.hid hbad
    clear hg2 hbad
    go_wp2_with fail
    go_at_call 7
    refine tright_any _ L _ w2 (HL.out.gr G2.out) OK.out (HT.out.gr G2.out) FB.out (by omega) ?_
    intro c w3 hc hg3
    obtain rfl : c = false := by cases c with | false => rfl | true => have := hc.1 rfl; rw [BAD.out] at this; cases this
    have G3 := Lib.hid (G2.out.tr hg3)
    clear hg3 hc
    go_wp2_with fail
    go_at_call 8
    refine rrightT_any _ L _ w3 (HL.out.gr G3.out) OK.out (HT.out.gr G3.out) FB.out ?_
    intro c w4 hc hg4
    obtain rfl : c = false := by cases c with | false => rfl | true => have := hc.1 rfl; rw [BAD.out] at this; cases this
    have G4 := Lib.hid (G3.out.tr hg4)
    clear hg4 hc
    go_wp2_with fail
    go_at_call 8
    refine rrightT_any _ L _ w4 (HL.out.gr G4.out) OK.out (HT.out.gr G4.out) FB.out ?_
    intro c w5 hc hg5
    obtain rfl : c = false := by cases c with | false => rfl | true => have := hc.1 rfl; rw [BAD.out] at this; cases this
    have G5 := Lib.hid (G4.out.tr hg5)
    clear hg5 hc
    go_wp2_with fail
    go_at_call 9
    refine code10_any _ _ ?_
    go_wp2_with fail
    go_at_call 5
    refine LV.out _ (G5.out) _ ?_
    intro w9 hg9
    have FIN := Lib.hid (HR.out _ ((G5.out).tr hg9))
    clear hg9 HR LV
    go_wp2
    exact FIN.out
  · intro hgood r w2 hO hg2
    have G2 := Lib.hid (G1.out.tr hg2)
    have GOOD := Lib.hid hgood
    have C2 := Lib.hid (Rd.own hO)
    obtain ⟨P1, P2, rfl⟩ := own_slice hO
    clear hg2 hgood hO
    go_wp2_with fail
    go_at_call 7
    refine tright_any _ L _ w2 (HL.out.gr G2.out) OK.out (HT.out.gr G2.out) FB.out (by omega) ?_
    intro c w3 hc hg3
    obtain rfl : c = true := hc.2 GOOD.out
    have G3 := Lib.hid (G2.out.tr hg3)
    have C3 := Lib.hid (C2.out.gr2 (by decide) hg3)
    clear hg3 hc C2
    go_wp2_with fail
    go_at_call 8
    refine rrightT_any _ L _ w3 (HL.out.gr G3.out) OK.out (HT.out.gr G3.out) FB.out ?_
    intro c w4 hc hg4
    obtain rfl : c = true := hc.2 GOOD.out
    have G4 := Lib.hid (G3.out.tr hg4)
    have C4 := Lib.hid (C3.out.gr2 (by decide) hg4)
    clear hg4 hc C3
    go_wp2_with fail
    go_at_call 8
    refine rrightT_any _ L _ w4 (HL.out.gr G4.out) OK.out (HT.out.gr G4.out) FB.out ?_
    intro c w5 hc hg5
    obtain rfl : c = true := hc.2 GOOD.out
    have G5 := Lib.hid (G4.out.tr hg5)
    have C5 := Lib.hid (C4.out.gr2 (by decide) hg5)
    clear hg5 hc C4
    have PZ : Hid (∀ x ∈ L.map LyR.pl, LyOkP x) := fun x hx => by obtain ⟨y, hy, rfl⟩ := List.mem_map.1 hx; exact Z.out y hy
    have TP := Lib.hid (tgB_put PZ.out GOOD.out (by rw [List.length_map]; omega))
    have GP := Lib.hid (getT_put PZ.out GOOD.out)
    have RP := Lib.hid fun W (hg : Grow w W) (R : Ending → World → Prop) hR => rtput_any _ L S W (HL.out.gr hg) OK.out (HT.out.gr hg) (by omega) Z.out GOOD.out (R := R) hR
    generalize putT (L.map LyR.pl) = bytes at *
    clear PZ Z FB
    go_wp2_with fail
    go_at_call 10
    refine tget_any bytes _ _ w5 C5.out TP.out (HT.out.gr G5.out) (fun e he => by rw [GP.out] at he; cases he) ?_
    intro M mv w6 hM hrd hok hfew hg6
    have ME := Lib.hid (show M.map LyR.pl = L.map LyR.pl by rw [GP.out] at hM; injection hM with hM; exact hM.symm)
    obtain ⟨M1, M2, M3, rfl⟩ := hrd.1.form
    have G6 := Lib.hid (G5.out.tr hg6)
    have C6 := Lib.hid (C5.out.gr2 (by decide) hg6)
    have RM := Lib.hid hrd
    clear hM hrd hok hfew hg6 C5 TP GP
    go_upto_region 9 with fail
    refine wp_region_lexT (fun W => Grow w6 W) ((Grow.refl _).dr) 17 [0, 2, 1, 3, 4, 5, 6, 7, 8, 9, 10, 11, 12, 13, 14, 15, 16] (by kernel_rfl) (by kernel_rfl) (by intro c a d v w h; cases d <;> exact h) ?_
    iterate 2 (apply lext_take; exact rfl; exact rfl; (intro W hW; skip; (try clear hW); go_simp; with_reducible rfl); try simp only [Act.put, List.setIfInBounds_toArray, List.set_cons_zero, List.set_cons_succ])
    apply lext_turn; exact rfl; exact rfl; exact rfl; intro K hK; go_simp; go_at_call 9; refine code10_any _ _ ?_
    refine hK.out _ _ (Grow.refl w6).dr ?_
    clear hK
    try simp only [Act.put, List.setIfInBounds_toArray, List.set_cons_zero, List.set_cons_succ]
    apply lext_turn; exact rfl; exact rfl; exact rfl; intro K hK; go_simp; go_at_call 9; refine code10_any _ _ ?_
    refine hK.out _ _ (Grow.refl w6).dr ?_
    clear hK
    try simp only [Act.put, List.setIfInBounds_toArray, List.set_cons_zero, List.set_cons_succ]
    iterate 6 (apply lext_take; exact rfl; exact rfl; (intro W hW; have cv := str_u8t (C6.out.gr2 (by decide) hW); (try clear hW); go_simp; with_reducible rfl); try simp only [Act.put, List.setIfInBounds_toArray, List.set_cons_zero, List.set_cons_succ])
    apply lext_turnG; exact rfl; exact rfl; exact rfl; intro K hK; go_simp
    go_at_call 11
    refine RP.out _ G6.out.dr _ ?_
    intro r w7 hO7 hg7
    have C7 := Lib.hid (Rd.own hO7)
    have G7 := Lib.hid ((Grow.refl w6).dr.tr hg7)
    obtain ⟨Q1, Q2, rfl⟩ := own_slice hO7
    clear hO7 hg7 RP
    refine hK.out _ _ (fun W => Grow w7 W) (fun W h => G7.out.tr h) (Grow.refl w7) ?_
    clear hK
    try simp only [Act.put, List.setIfInBounds_toArray, List.set_cons_zero, List.set_cons_succ]
    iterate 6 (apply lext_take; exact rfl; exact rfl; (intro W hW; have cv := str_u8t (C7.out.gr2 (by decide) hW); (try clear hW); go_simp; with_reducible rfl); try simp only [Act.put, List.setIfInBounds_toArray, List.set_cons_zero, List.set_cons_succ])
    refine lext_nil ?_
    simp only [List.drop_succ_cons, List.drop_zero]
    have G8 := Lib.hid (G6.out.tr G7.out)
    have RM8 := Lib.hid (RM.out.gr G7.out)
    clear RM C6 C7
    go_wp2_with fail
    go_at_call 12
    refine rsameT_any _ _ L M _ _ w7 (HL.out.gr G8.out) RM8.out ?_
    intro c w9 hc hg9
    obtain rfl : c = true := hc.2 ME.out.symm
    have G9 := Lib.hid (G8.out.tr hg9)
    clear hg9 hc
    go_wp2_with fail
    go_at_call 5
    refine LV.out _ (G9.out) _ ?_
    intro w9 hg9
    have FIN := Lib.hid (HR.out _ ((G9.out).tr hg9))
    clear hg9 HR LV
    go_wp2
    exact FIN.out
end Go.Proofs.YtjalimkajcjapaaDoor
