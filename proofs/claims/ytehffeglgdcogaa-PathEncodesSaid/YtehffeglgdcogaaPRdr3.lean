/-
  The reader of path.Decode: path.
-/
import Derived.Test.YtehffeglgdcogaaChecked
import Derived.Test.YtehffeglgdcogaaPRdr2
namespace Go.Proofs.Ytehffeglgdcogaa
open Go.RowKit B

theorem pathS_e1 {kind : Int} {a : Pt} {l : List Int} {e : Int} (h : cmdS 1 1 1 a l = .error e) : pathS kind a l = .error e := by unfold pathS; rw [h]
theorem pathS_e2 {kind : Int} {a : Pt} {l r : List Int} {p : List Pt} {e : Int} (h : cmdS 1 1 1 a l = .ok (p, r)) (h2 : cmdS 2 (kind - 1) 536870912 (lastPt a p) r = .error e) : pathS kind a l = .error e := by unfold pathS; rw [h]; dsimp only; rw [h2]
theorem pathS_o2 {kind : Int} {a : Pt} {l r s : List Int} {p q : List Pt} (h : cmdS 1 1 1 a l = .ok (p, r)) (h2 : cmdS 2 (kind - 1) 536870912 (lastPt a p) r = .ok (q, s)) : pathS kind a l = endS kind (p ++ q) s := by unfold pathS; rw [h]; dsimp only; rw [h2]
theorem cmdS_lenL {l r : List Int} {k low high : Int} {a : Pt} {i : Nat} {ps : List Pt} (h : cmdS k low high a (l.drop i) = .ok (ps, r)) : ps.length ≤ l.length := by
  have := (cmdS_len h).2
  rw [List.length_drop] at this
  omega

set_option maxRecDepth 100000 in
set_option maxHeartbeats 4000000 in
theorem path_any (kind : Int) (l : List Int) (lv : Value) (rb i : Nat) (a : Pt) (w0 w : World) (hk : 2 ≤ kind ∧ kind ≤ 3) (hB : RdrB w0 rb lv i a w) (hl : Rd w0 (· < w0.heap.size) 1 lv l.length (U32 l)) (hu : ∀ x ∈ l, 0 ≤ x ∧ x ≤ 4294967295) (ha : Near a) (hlen : l.length ≤ 1000) {R : Ending → World → Prop}
    (hE : ∀ e, pathS kind a (l.drop i) = .error e → ∀ w', w.grownBy w' (some rb) → R (.panicked (stopE e)) w')
    (hR : ∀ ps j, pathS kind a (l.drop i) = .ok (ps, l.drop j) → j ≤ l.length → ∀ v w', RdrB w0 rb lv j (lastPt a ps) w' → w'.ownsRow w.heap.size 77 2 v ps.length (Pts ps) → w.grownBy w' (some rb) → Near (lastPt a ps) → R (.returned v) w') :
    Calls Try.prog 55 #[.pointer (some ⟨rb, 0, none⟩), .int .i64 kind] w R := by
  have HR := Lib.hid hR
  have HE := Lib.hid hE
  have HA := Lib.hid ha
  have HB := Lib.hid hB
  have PO := Lib.hid fun k low high j b W (h : RdrB w0 rb lv j b W) (hn : Near b) (R : Ending → World → Prop) hE hR => points_any k low high l lv rb j b w0 W h hl hu hn hlen (R := R) hE hR
  have CL := Lib.hid fun j b W (h : RdrB w0 rb lv j b W) (R : Ending → World → Prop) hS hE hR => closed_any l lv rb j b w0 W h hl (R := R) hS hE hR
  have HWW := Lib.hid (hB : BoxH w0 rb _ _ w).lt
  have HL := Lib.hid hlen
  clear hR hE hu hB hl ha hlen
  have ew : IntKind.i64.wrap (kind - 1) = kind - 1 := IntWalk.i64_in _ (by omega)
  have HK := Lib.hid hk
  clear hk
  go_enter Try.func55, Try.ntmps55
  go_wp2_with fail
  go_at_call 54
  refine PO.out 1 1 1 i a w HB.out HA.out _ ?_ ?_
  · intro e he w' hg
    exact ⟨rfl, HE.out e (pathS_e1 he) w' hg⟩
  · intro p j hp hj v1 w1 hB1 hO1 hg1 hn1
    have P1 := Lib.hid hp
    have G1 := Lib.hid hg1
    have B1 := Lib.hid hB1
    have O1 := Lib.hid hO1
    have N1 := Lib.hid hn1
    have NE1 : Hid (v1.ownBlock ≠ some rb) := fun e => by have := (hO1.lt rb e).1; have := HWW.out; omega
    clear hp hj hB1 hO1 hg1 hn1
    go_wp2_with fail
    go_at_call 54
    refine PO.out 2 (kind - 1) 536870912 j (lastPt a p) w1 B1.out N1.out _ ?_ ?_
    · intro e he w' hg
      exact ⟨rfl, HE.out e (pathS_e2 P1.out he) w' (by_tr G1.out hg)⟩
    · intro q m hq hm v2 w2 hB2 hO2 hg2 hn2
      have P2 := Lib.hid (pathS_o2 P1.out hq)
      have G2 := Lib.hid (by_tr G1.out hg2)
      have B2 := Lib.hid hB2
      have O2 := Lib.hid hO2
      have N2 := Lib.hid hn2
      have O12 := Lib.hid (O1.out.kept hg2 (.inr NE1.out))
      have HM := Lib.hid hm
      have LL : Hid (p.length + q.length ≤ 2000) := by
        show _ ≤ _
        have := cmdS_lenL P1.out
        have := cmdS_lenL hq
        have := HL.out
        omega
      clear hq hm hB2 hO2 hg2 hn2
      by_cases h3 : kind = 3
      · have t1 : (kind == 3) = true := by rw [beq_iff_eq]; exact h3
        have P3 : Hid (pathS kind a (l.drop i) = match l.drop m with | [] => .error 2 | c :: l => if c = 15 then .ok (p ++ q, l) else .error 3) := by
          have := P2.out
          unfold endS at this
          rw [if_pos h3] at this
          exact this
        clear h3
        go_wp2_with (at_builtin; refine wpList_app rfl _ _ rfl el_pt O12.out rfl (Rd.own O2.out) rfl (Pts_one _) (by have := LL.out; omega) G2.out.size ?_; intro v3 w3 hown3 hgr3 hb3)
        have O3 := Lib.hid (own_eq hown3 (List.length_append).symm (Pts_app _ _).symm)
        have B3 := Lib.hid ((B2.out : BoxH w0 rb _ _ w2).by_ hgr3 (fun k hk => by have := own_ge O12.out k hk; have := (HB.out : BoxH w0 rb _ _ w).grow.size; omega) (fun e => NE1.out e.symm))
        have B3' : Hid (RdrB w0 rb lv m (lastPt a (p ++ q)) w3) := by rw [← lastPt_app]; exact B3.out
        have N3 : Hid (Near (lastPt a (p ++ q))) := by rw [← lastPt_app]; exact N2.out
        have G3 := Lib.hid (by_app G2.out hgr3 (own_ge O12.out))
        have NE3 : Hid (v3.ownBlock ≠ some rb) := fun e => by have := (O3.out.lt rb e).1; have := HWW.out; omega
        clear hown3 hgr3 hb3 B3
        generalize p ++ q = pq at *
        go_at_call 65
        refine CL.out m _ w3 B3'.out _ ?_ ?_ ?_
        · intro h w' hg
          exact ⟨rfl, HE.out 2 (by rw [P3.out, List.drop_eq_nil_of_le h]) _ (by_tr G3.out hg)⟩
        · intro h hx w' hg
          exact ⟨rfl, HE.out 3 (by rw [P3.out, List.drop_eq_getElem_cons h]; dsimp only; rw [if_neg hx]) _ (by_tr G3.out hg)⟩
        · intro h hx w4 hB4 hg4
          have P4 : Hid (pathS kind a (l.drop i) = .ok (pq, l.drop (m + 1))) := by
            show _ = _
            rw [P3.out, List.drop_eq_getElem_cons h]; dsimp only; rw [if_pos hx]
          have B4 := Lib.hid hB4
          have H4 := Lib.hid h
          have G4 := Lib.hid (by_tr G3.out hg4)
          have O4 := Lib.hid (O3.out.kept hg4 (.inr NE3.out))
          clear hB4 hg4 h hx
          go_wp2
          exact HR.out pq (m + 1) P4.out (H4.out) _ _ B4.out O4.out G4.out N3.out
      · have t1 : (kind == 3) = false := by rw [beq_eq_false_iff_ne]; exact h3
        have P3 : Hid (pathS kind a (l.drop i) = .ok (p ++ q, l.drop m)) := by
          have := P2.out
          unfold endS at this
          rw [if_neg h3] at this
          exact this
        clear h3
        go_wp2_with (at_builtin; refine wpList_app rfl _ _ rfl el_pt O12.out rfl (Rd.own O2.out) rfl (Pts_one _) (by have := LL.out; omega) G2.out.size ?_; intro v3 w3 hown3 hgr3 hb3)
        have O3 := Lib.hid (own_eq hown3 (List.length_append).symm (Pts_app _ _).symm)
        have B3 := Lib.hid ((B2.out : BoxH w0 rb _ _ w2).by_ hgr3 (fun k hk => by have := own_ge O12.out k hk; have := (HB.out : BoxH w0 rb _ _ w).grow.size; omega) (fun e => NE1.out e.symm))
        have B3' : Hid (RdrB w0 rb lv m (lastPt a (p ++ q)) w3) := by rw [← lastPt_app]; exact B3.out
        have N3 : Hid (Near (lastPt a (p ++ q))) := by rw [← lastPt_app]; exact N2.out
        have G3 := Lib.hid (by_app G2.out hgr3 (own_ge O12.out))
        have NE3 : Hid (v3.ownBlock ≠ some rb) := fun e => by have := (O3.out.lt rb e).1; have := HWW.out; omega
        clear hown3 hgr3 hb3 B3
        generalize p ++ q = pq at *
        exact HR.out pq m P3.out HM.out _ _ B3'.out O3.out G3.out N3.out
end Go.Proofs.Ytehffeglgdcogaa
