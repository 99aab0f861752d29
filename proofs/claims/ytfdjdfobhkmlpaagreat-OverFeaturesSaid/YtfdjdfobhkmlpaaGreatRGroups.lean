import Derived.Test.YtfdjdfobhkmlpaaGreatWindB
namespace Go.Proofs.YtfdjdfobhkmlpaaGreat
set_option maxRecDepth 100000
open Go.RowKit B
set_option maxHeartbeats 8000000 in
theorem rgroups_any (ps : List PRow) (a : Value) (S S' : Nat -> Prop) (w : World) (ha : Rd w S 1 a ps.length (ps.map PRow.v)) (hA : ∀ r ∈ ps, r.rd w S') (hl : ps.length <= 1000) {R : Ending -> World -> Prop}
  (hR : ∀ s rows w', Grp w' w.heap.size s rows.length rows -> rows.map IRow.l = (groupsAt (sgAt ps) ps.length).1 -> Grow w w' -> R (.returned (.tuple #[s, .bool (decide (0 < rows.length))])) w') :
  Calls Tryz.prog 50 #[a] w R := by
 have HR := Lh hR; clear hR; have ha := ha.lt (by decide); have HA0 := Lh ha; have HA := Lh hA; clear hA; obtain ⟨_, A, c, rfl, h1, h2, h3, h4⟩ := ha; unfold maxLen at h2; go_enter Tryz.func50, Tryz.ntmps50
 go_wp2
 go_loopw [6, 4, 5] (fun i s f wr => ∃ (k m c : Nat) (A : Option Addr) (rows : List IRow) (fi : Int), k <= ps.length /\ i = .int .i64 k /\ m <= k /\ Hid (m = rows.length) /\ s = .slice A m c /\ f = .int .i64 fi /\ (-1 <= fi /\ fi <= 1) /\ Hid (Grp wr w.heap.size (.slice A m c) m rows) /\ Hid (groupsAt (sgAt ps) k = (rows.map IRow.l, fi)) /\ Hid (∀ r ∈ rows, r.l.length <= k) /\ Hid (Grow w wr)) (fun i _ _ _ => ps.length - (intOf i).toNat)
 case atStart => exact ⟨0, 0, 0, none, [], 0, Nat.zero_le _, rfl, Nat.le_refl _, rfl, rfl, rfl, by omega, Grp.nil _ _, rfl, fun r hr => by simp at hr, Grow.refl _⟩
 case round =>
  obtain ⟨k, m, cc, AA, rows, fi, hk, rfl, hmk, hm, rfl, rfl, hfi, hgr, hga, hrl, hg⟩ := hrel
  by_cases hlt : k < ps.length
  ·obtain ⟨b, o, rfl, -, -⟩ := h4 (by omega)
   have c1 : wr.cell? ⟨b, o + k, none⟩ = some (ps[k]'hlt).v := by
    have := rd_cell hg.out HA0.out rfl (i := k) (by simpa using hlt); rw [List.getElem_map] at this; exact this
   have r1 := HA.out (ps[k]'hlt) (List.getElem_mem hlt)
   have SG : Hid (sgAt ps k = sgnI (areaV (ps[k]'hlt).l)) := by
    show _ = _; simp [sgAt, hlt]
   have GS : Hid (groupsAt (sgAt ps) (k + 1) = stepG (rows.map IRow.l, fi) k (sgAt ps k)) := by
    show _ = _; rw [groupsAt, hga.out]
   have NE : Hid (fi ≠ 0 -> rows ≠ []) := by
    intro h e; have := groupsAt_ne (sgAt ps) k; rw [hga.out, e] at this; exact this h rfl
   clear h3 h4 hga; generalize ps[k]'hlt = p at *; obtain ⟨v, l⟩ := p; dsimp only at *; unfold PRow.rd at r1; dsimp only at r1; have r1 := Lh (r1.gr2 (by decide) hg.out); have bs := sgnI_bd (areaV l); have HS := Lh fun (R : Ending -> World -> Prop) hR => rsign_any l v _ wr r1.out (R := R) hR
   rw [<- SG.out] at HS bs; obtain ⟨_, A2, c2, rfl, x1, x2, x3, -⟩ := r1.out; unfold maxLen at x2; generalize sgAt ps k = s at *; clear r1 SG; go_wp2_with fail
   clear c1; refine HS.out _ ?_; intro w1 hg1; have G1 := Lh (hg.out.tr hg1); have GR1 := Lh (hgr.out.grow hg1); clear hg1 hgr HS; have ST : Hid (∀ st, stepG (rows.map IRow.l, fi) k s = st -> groupsAt (sgAt ps) (k + 1) = st) := by rintro st rfl; exact GS.out
   clear GS
   by_cases hs0 : s = 0
   ·have ST := Lh (ST.out (rows.map IRow.l, fi) (by rw [stepG, if_pos hs0]))
    have t1 : (s == 0) = true := by simp [hs0]
    clear NE
    by_cases hf0 : fi = 0
    ·have t2 : (fi == 0) = true := by simp [hf0]
     have ST := Lh (show groupsAt (sgAt ps) (k + 1) = (rows.map IRow.l, 0) by have := ST.out; rw [hf0] at this; exact this); go_wp2; go_roundw
     case rel => exact ⟨k + 1, m, cc, AA, rows, 0, by omega, by go_num, by omega, hm.out, rfl, rfl, by omega, GR1.out, ST.out, fun r hr => Nat.le_succ_of_le (hrl.out r hr), G1.out⟩
     case measure => simp [intOf]; omega
    ·have t2 : (fi == 0) = false := by simp [hf0]
     go_wp2; go_roundw
     case rel => exact ⟨k + 1, m, cc, AA, rows, fi, by omega, by go_num, by omega, hm.out, rfl, rfl, hfi, GR1.out, ST.out, fun r hr => Nat.le_succ_of_le (hrl.out r hr), G1.out⟩
     case measure => simp [intOf]; omega
   ·have t1 : (s == 0) = false := by simp [hs0]
    have ST2 := ST.out; rw [stepG, if_neg hs0] at ST2; clear ST
    by_cases hf0 : fi = 0
    ·have t2 : (fi == 0) = true := by simp [hf0]
     have ST3 : Hid (∀ st, (rows.map IRow.l ++ [[k]], s) = st -> groupsAt (sgAt ps) (k + 1) = st) := by
      intro st h; refine ST2 st ?_; rw [if_pos hf0]; exact h
     clear ST2 NE; go_wp2_with (at_builtin; refine wpList_newAt rfl _ _ rfl el_ints (own_grow GR1.out.out ((Grow.refl _).al _)) rfl 1 _ (World.size_alloc _ _) _ rfl (by decide) rfl (by simp [Value.oneCell']) (by omega) (G1.out.al _) ⟨Nat.le_refl _, (G1.out.al _).size⟩ ?_; intro v1 w4 hown4 hg4 hgr4 hb4; have GR4 := Lh (GR1.out.app G1.out.size hown4 hgr4 hb4); have G4 := Lh hg4; obtain ⟨A5, c5, rfl⟩ := own_slice hown4; clear hown4 hg4 hgr4 hb4)
     go_roundw
     case rel =>
      refine ⟨k + 1, m + 1, c5, A5, _, s, by omega, by go_num, by omega, ?_, rfl, rfl, by omega, GR4.out, ?_, ?_, G4.out⟩
      ·show _ = _
       rw [List.length_append, <- hm.out]; rfl
      ·refine ST3.out _ ?_
       rw [List.map_append]; rfl
      ·intro r hr
       rcases List.mem_append.1 hr with hr | hr
       ·exact Nat.le_succ_of_le (hrl.out r hr)
       ·rw [List.mem_singleton.1 hr]; simp
     case measure => simp [intOf]; omega
    ·have t2 : (fi == 0) = false := by simp [hf0]
     rw [if_neg hf0] at ST2
     by_cases hsf : s = fi
     ·have t3 : (s == fi) = true := by simp [hsf]
      have ST3 : Hid (∀ st, (rows.map IRow.l ++ [[k]], fi) = st -> groupsAt (sgAt ps) (k + 1) = st) := by
       intro st h; refine ST2 st ?_; rw [if_pos hsf]; exact h
      clear ST2 NE; go_wp2_with (at_builtin; refine wpList_newAt rfl _ _ rfl el_ints (own_grow GR1.out.out ((Grow.refl _).al _)) rfl 1 _ (World.size_alloc _ _) _ rfl (by decide) rfl (by simp [Value.oneCell']) (by omega) (G1.out.al _) ⟨Nat.le_refl _, (G1.out.al _).size⟩ ?_; intro v1 w4 hown4 hg4 hgr4 hb4; have GR4 := Lh (GR1.out.app G1.out.size hown4 hgr4 hb4); have G4 := Lh hg4; obtain ⟨A5, c5, rfl⟩ := own_slice hown4; clear hown4 hg4 hgr4 hb4)
      go_roundw
      case rel =>
       refine ⟨k + 1, m + 1, c5, A5, _, fi, by omega, by go_num, by omega, ?_, rfl, rfl, by omega, GR4.out, ?_, ?_, G4.out⟩
       ·show _ = _
        rw [List.length_append, <- hm.out]; rfl
       ·refine ST3.out _ ?_
        rw [List.map_append]; rfl
       ·intro r hr
        rcases List.mem_append.1 hr with hr | hr
        ·exact Nat.le_succ_of_le (hrl.out r hr)
        ·rw [List.mem_singleton.1 hr]; simp
      case measure => simp [intOf]; omega
     ·have t3 : (s == fi) = false := by simp [hsf]
      have ST3 : Hid (∀ st, (appendLast (rows.map IRow.l) k, fi) = st -> groupsAt (sgAt ps) (k + 1) = st) := by
       intro st h; refine ST2 st ?_; rw [if_neg hsf]; exact h
      have hne := NE.out hf0; clear ST2 NE
      obtain ⟨init, r, rfl⟩ : ∃ init r, rows = init ++ [r] := by
       rcases List.eq_nil_or_concat rows with rfl | ⟨i, r, rfl⟩
       ·exact absurd rfl hne
       ·exact ⟨i, r, List.concat_eq_append⟩
      have hm2 : m = init.length + 1 := by have := hm.out; simpa using this
      have HM := Lh hm2; obtain ⟨g, c6, e6⟩ := own_form GR1.out.out (by omega); injection e6 with e6 _ e7
      subst e6 e7; have hmem : r ∈ init ++ [r] := List.mem_append.2 (.inr (List.mem_singleton.2 rfl)); have HE := Lh (GR1.out.each r hmem); have hrb := hrl.out r hmem
      have cl : w1.cell? ⟨g, init.length, none⟩ = some r.v := by
       have := rd_cell (Grow.refl w1) (Rd.own GR1.out.out) rfl (i := init.length) (by simp); rw [Nat.zero_add] at this; rw [this]; simp
      obtain ⟨A7, c7, e7⟩ := own_slice HE.out.1; obtain ⟨rv, rl⟩ := r; dsimp only at e7 HE cl hrb; subst e7; clear hne hmem; subst hm2; have GH : Hid (w1.ownsRow w.heap.size 43 1 (.slice (some ⟨g, 0, none⟩) (init.length + 1) cc) (init.length + 1) ((init ++ [(⟨.slice A7 rl.length c7, rl⟩ : IRow)]).map IRow.v)) := GR1.out.out
      go_wp2_with (at_builtin; refine wpList_new rfl _ _ rfl el_int HE.out.1 rfl 1 _ rfl (by decide) rfl (by simp [Value.oneCell']) (by omega) G1.out ⟨Nat.le_refl _, G1.out.size⟩ ?_; intro v4 w4 hown4 hg4 hgr4 hb4; have GRL := Lh (GR1.out.last rfl hown4 hgr4 hb4); have G4 := Lh hg4; have o4 := GH.out.kept hgr4 (.inr (fun e => HE.out.2.2 e.symm)); have f4 := own_free o4 init.length; have d4 : w4.cell? ⟨g, init.length, none⟩ = some (.slice A7 rl.length c7) := (by have := rd_cell (Grow.refl w4) (Rd.own o4) rfl (i := init.length) (by simp); rw [Nat.zero_add] at this; rw [this]; simp); obtain ⟨A8, c8, rfl⟩ := own_slice hown4; clear hown4 hg4 hgr4 hb4 o4 cl)
      go_roundw
      case rel =>
       refine ⟨k + 1, init.length + 1, cc, some ⟨g, 0, none⟩, init ++ [IRow.mk (.slice A8 (rl.length + 1) c8) (rl ++ [k])], fi, by omega, by go_num, by omega, ?_, rfl, rfl, by omega, GRL.out, ?_, ?_, G4.out.set (p := ⟨g, init.length, none⟩) ((GH.out.lt g rfl).1) _⟩
       ·show _ = _
        simp
       ·refine ST3.out _ ?_
        rw [List.map_append, List.map_append]; show (appendLast (init.map IRow.l ++ [rl]) k, fi) = (init.map IRow.l ++ [rl ++ [k]], fi); rw [appendLast_snoc]
       ·intro r hr
        rcases List.mem_append.1 hr with hr | hr
        ·exact Nat.le_succ_of_le (hrl.out r (List.mem_append.2 (.inl hr)))
        ·rw [List.mem_singleton.1 hr, List.length_append]; simpa using hrb
      case measure => simp [intOf]; omega
  ·obtain rfl : k = ps.length := by omega
   have hm' := hm.out; subst hm'; go_wp2; refine HR.out _ rows _ hgr.out ?_ hg.out; rw [hga.out]
end Go.Proofs.YtfdjdfobhkmlpaaGreat
