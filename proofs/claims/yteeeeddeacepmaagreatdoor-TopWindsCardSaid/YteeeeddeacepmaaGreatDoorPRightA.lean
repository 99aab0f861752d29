import Derived.Test.YteeeeddeacepmaaGreatDoorRowsA
namespace Go.Proofs.YteeeeddeacepmaaGreatDoor
set_option maxRecDepth 100000
open Go.RowKit
def inm (n : Int) : Bool := decide (-1048576 <= n) && decide (n <= 1048576)
set_option maxHeartbeats 400000 in
theorem pout_any (n : Int) (w : World) {R : Ending -> World -> Prop} (hR : R (.returned (.bool (!inm n))) w) : Calls Tryz.prog 17 #[.int .i64 n] w R := by
 have HR1 : ∀ b, (!inm n) = b -> R (.returned (.bool b)) w := by rintro b rfl; exact hR
 have HR := Lh HR1; clear hR HR1
 by_cases h : n < -1048576
 ·have t1 : decide (n < -1048576) = true := by simp [h]
  go_enter Tryz.func17, Tryz.ntmps17
  go_wp2; refine HR.out _ ?_; simp [inm]; omega
 ·have t1 : decide (n < -1048576) = false := by simp; omega
  go_enter Tryz.func17, Tryz.ntmps17
  go_wp2; refine HR.out _ ?_; simp only [inm]
  by_cases h2 : n <= 1048576
  ·have a1 : decide (-1048576 <= n) = true := by simp; omega
   have a2 : decide (n <= 1048576) = true := by simp; omega
   have a3 : decide (1048576 < n) = false := by simp; omega
   rw [a1, a2, a3]; rfl
  ·have a2 : decide (n <= 1048576) = false := by simp; omega
   have a3 : decide (1048576 < n) = true := by simp; omega
   rw [a2, a3, Bool.and_false]; rfl
def Pt.off (p : Pt) : Bool := !inm p.x || !inm p.y
def offs (l : List Pt) : Bool := l.any Pt.off
def offsR (l : List PRow) : Bool := l.any fun r => offs r.l
def pright (kind : Int) (ps : List PRow) : Int :=
 if kind < 1 ∨ 3 < kind then 1 else if ps.length = 0 ∨ (kind = 1 /\ 1 < ps.length) then 3 else if ∃ r ∈ ps, (r.l.length : Int) < kind then 3 else if offsR ps then 8 else 0
def ecode (b : Bool) : Int := if b then 8 else 0
theorem any_take_succ {α : Type} (f : α -> Bool) {l : List α} {k : Nat} (hk : k < l.length) : (l.take (k + 1)).any f = ((l.take k).any f || f l[k]) := by
 rw [List.take_succ_eq_append_getElem hk, List.any_append]; simp
end Go.Proofs.YteeeeddeacepmaaGreatDoor
namespace Go.Proofs.YteeeeddeacepmaaGreatDoor
set_option maxRecDepth 100000
open Go.RowKit
theorem rd_cell2 {w W : World} {S : Nat -> Prop} {b o c : Nat} {l : List Pt} (hW : Grow w W) (h : Rd w S 2 (.slice (some ⟨b, o, none⟩) l.length c) l.length (Pts l)) {i : Nat} (hi : i < l.length) :
  W.cell? ⟨b, o + i * 2, none⟩ = some (.int .i64 l[i].x) /\ W.cell? ⟨b, o + i * 2 + 1, none⟩ = some (.int .i64 l[i].y) := by
 obtain ⟨_, A', c', hv, h1, h2, h3, h4⟩ := h; injection hv with e1 _ e2
 obtain ⟨b', o', e, hS, hc⟩ := h4 (by omega); rw [e] at e1; injection e1 with e1
 injection e1 with e1 e3
 subst e1 e3; have hb : b < w.heap.size := World.block_lt_of_cell? w _ (hc 0 _ (List.getElem?_eq_getElem (by rw [Pts_len]; omega))); have e := flat_cells Pt.cells_len hW hb hc hi; exact ⟨e 0 _ rfl, e 1 _ rfl⟩
set_option maxHeartbeats 4000000 in
theorem rright9_any (kind : Int) (a : Value) (A : List PRow) (S S' : Nat -> Prop) (w : World) (ha : Rd w S 1 a A.length (A.map PRow.v)) (hA : ∀ r ∈ A, r.rd w S') {R : Ending -> World -> Prop}
  (hR : ∀ w', Grow w w' -> R (.returned (.int .i64 (pright kind A))) w') :
  Calls Tryz.prog 4 #[.int .i64 kind, a] w R := by
 have HR1 : ∀ n w', pright kind A = n -> Grow w w' -> R (.returned (.int .i64 n)) w' := by rintro n w' rfl h; exact hR _ h
 have HR := Lh HR1; clear hR HR1; have HA0 := Lh ha; obtain ⟨_, A0, c, rfl, h1, h2, h3, h4⟩ := ha; have HA := Lh hA; unfold maxLen at h2; clear hA h3
 by_cases hkk : kind < 1 ∨ 3 < kind
 ·have HF : Hid (pright kind A = 1) := by show _ = _; unfold pright; rw [if_pos hkk]
  by_cases g1 : kind < 1
  ·have t1 : decide (kind < 1) = true := decide_eq_true g1
   clear hkk g1; go_enter Tryz.func4, Tryz.ntmps4
   go_wp2; exact HR.out _ _ HF.out (Grow.refl w)
  ·have t1 : decide (kind < 1) = false := decide_eq_false g1
   have t2 : decide (3 < kind) = true := decide_eq_true (by omega); clear hkk g1; go_enter Tryz.func4, Tryz.ntmps4
   go_wp2; exact HR.out _ _ HF.out (Grow.refl w)
 ·have u1 : decide (kind < 1) = false := decide_eq_false (by omega)
  have u2 : decide (3 < kind) = false := decide_eq_false (by omega)
  by_cases hl0 : A.length = 0
  ·have t1 : ((A.length : Int) == 0) = true := by rw [hl0]; rfl
   have HF : Hid (pright kind A = 3) := by show _ = _; unfold pright; rw [if_neg hkk, if_pos (.inl hl0)]
   clear hl0 hkk; go_enter Tryz.func4, Tryz.ntmps4
   go_wp2; exact HR.out _ _ HF.out (Grow.refl _)
  ·have t1 : ((A.length : Int) == 0) = false := by rw [beq_eq_false_iff_ne]; omega
   by_cases hm : kind = 1 /\ 1 < A.length
   ·have t2 : (kind == 1) = true := by rw [beq_iff_eq]; exact hm.1
    have t3 : ((A.length : Int) != 1) = true := by rw [bne_iff_ne]; omega
    have HF : Hid (pright kind A = 3) := by show _ = _; unfold pright; rw [if_neg hkk, if_pos (.inr hm)]
    clear hl0 hkk hm; go_enter Tryz.func4, Tryz.ntmps4
    go_wp2; exact HR.out _ _ HF.out (Grow.refl _)
   ·have hg2 : (kind == 1) = false ∨ ((kind == 1) = true /\ ((A.length : Int) != 1) = false) := by
     by_cases e : kind = 1
     ·exact .inr ⟨by rw [beq_iff_eq]; exact e, by rw [bne_eq_false_iff_eq]; have : ¬ 1 < A.length := fun h => hm ⟨e, h⟩; omega⟩
     ·exact .inl (by simpa using e)
    have HS : Hid ((∃ r ∈ A, (r.l.length : Int) < kind) -> pright kind A = 3) := by
     intro h; unfold pright; rw [if_neg hkk, if_neg (by rintro (h | h); exact hl0 h; exact hm h), if_pos h]
    have HD : Hid ((∀ r ∈ A, kind <= (r.l.length : Int)) -> pright kind A = ecode (offsR A)) := by
     intro h; unfold pright ecode; rw [if_neg hkk, if_neg (by rintro (h | h); exact hl0 h; exact hm h), if_neg (by rintro ⟨r, hr, h2⟩; have := h r hr; omega)]
    clear hm hkk
    rcases hg2 with t2 | ⟨t2, t3⟩
    ·go_enter Tryz.func4, Tryz.ntmps4
     go_wp2
     try clear t2
     try clear t3
     clear t1 u1 u2
     go_loopw [5] (fun i wr => ∃ (k : Nat), k <= A.length /\ i = .int .i64 k /\ Hid (∀ r ∈ A.take k, kind <= (r.l.length : Int)) /\ Hid (Grow w wr)) (fun i _ => A.length - (intOf i).toNat)
     case atStart => exact ⟨0, Nat.zero_le _, rfl, fun r hr => by simp at hr, Grow.refl _⟩
     case round =>
      obtain ⟨k, hk, rfl, hmin, hg⟩ := hrel
      by_cases hlt : k < A.length
      ·obtain ⟨b1, o1, rfl, -, -⟩ := h4 (by omega)
       have c1 : wr.cell? ⟨b1, o1 + k, none⟩ = some (A[k]'hlt).v := by
        have := rd_cell hg.out HA0.out rfl (i := k) (by simpa using hlt); rw [List.getElem_map] at this; exact this
       have r1 := HA.out (A[k]'hlt) (List.getElem_mem hlt)
       have MN : Hid (kind <= ((A[k]'hlt).l.length : Int) -> ∀ r ∈ A.take (k + 1), kind <= (r.l.length : Int)) := by
        intro h r hr; rw [List.take_succ_eq_append_getElem hlt] at hr; rcases List.mem_append.1 hr with hr | hr
        ·exact hmin.out r hr
        ·rw [List.mem_singleton.1 hr]; exact h
       have SH : Hid (((A[k]'hlt).l.length : Int) < kind -> ∃ r ∈ A, (r.l.length : Int) < kind) := fun h => ⟨_, List.getElem_mem hlt, h⟩
       clear h4 hmin; generalize A[k]'hlt = ra at *; obtain ⟨v1, l1⟩ := ra; unfold PRow.rd at r1; dsimp only at *; obtain ⟨_, X, cx, rfl, x1, x2, -, -⟩ := r1; unfold maxLen at x2
       by_cases hsh : (l1.length : Int) < kind
       ·have SH2 := Lh (SH.out hsh)
        have t5 : decide ((l1.length : Int) < kind) = true := decide_eq_true hsh; clear hsh; go_wp2; exact HR.out _ _ (HS.out SH2.out) hg.out
       ·have MN2 := Lh (MN.out (by omega))
        have t5 : decide ((l1.length : Int) < kind) = false := decide_eq_false hsh; clear MN SH hsh; go_wp2; go_roundw
        case rel => exact ⟨k + 1, by omega, by go_num, MN2.out, hg.out⟩
        case measure => simp [intOf]; omega
      ·obtain rfl : k = A.length := by omega
       rw [List.take_length] at hmin; have HD2 := Lh (HD.out hmin.out); clear hmin; go_wp2
       go_loopw [6] (fun i wz => ∃ (k : Nat), k <= A.length /\ i = .int .i64 k /\ Hid (offsR (A.take k) = false) /\ Hid (Grow w wz)) (fun i _ => A.length - (intOf i).toNat)
       case atStart => exact ⟨0, Nat.zero_le _, rfl, (show offsR [] = false from rfl), hg.out⟩
       case round =>
        obtain ⟨k, hk, rfl, hof, hgz⟩ := hrel
        by_cases hlt : k < A.length
        ·obtain ⟨b1, o1, rfl, -, -⟩ := h4 (by omega)
         have C1 : Hid (∀ W, Grow w W -> W.cell? ⟨b1, o1 + k, none⟩ = some (A[k]'hlt).v) := fun W hW => by
          have := rd_cell hW HA0.out rfl (i := k) (by simpa using hlt); rw [List.getElem_map] at this; exact this
         have r1 := HA.out (A[k]'hlt) (List.getElem_mem hlt); have OF : Hid (offsR (A.take (k + 1)) = (offsR (A.take k) || offs (A[k]'hlt).l)) := any_take_succ _ hlt; have OB : Hid (offs (A[k]'hlt).l = true -> offsR A = true) := fun h => List.any_eq_true.2 ⟨_, List.getElem_mem hlt, h⟩
         clear h4; generalize A[k]'hlt = ra at *; obtain ⟨v1, l1⟩ := ra; unfold PRow.rd at r1; dsimp only at *; have RR := Lh r1; obtain ⟨_, X, cx, rfl, x1, x2, -, x4⟩ := r1; unfold maxLen at x2; go_wp2
         go_loopw [7] (fun i wy => ∃ (j : Nat), j <= l1.length /\ i = .int .i64 j /\ Hid (offs (l1.take j) = false) /\ Hid (Grow w wy)) (fun i _ => l1.length - (intOf i).toNat)
         case atStart => exact ⟨0, Nat.zero_le _, rfl, (show offs [] = false from rfl), hgz.out⟩
         case round =>
          obtain ⟨j, hj, rfl, hoj, hgy⟩ := hrel; have c1 := C1.out _ hgy.out
          by_cases hjl : j < l1.length
          ·obtain ⟨b3, o3, rfl, -, -⟩ := x4 (by omega)
           obtain ⟨d1, d2⟩ := rd_cell2 hgy.out RR.out hjl; have OG : Hid (offs (l1.take (j + 1)) = (offs (l1.take j) || (l1[j]'hjl).off)) := any_take_succ _ hjl; have OJ : Hid ((l1[j]'hjl).off = true -> offs l1 = true) := fun h => List.any_eq_true.2 ⟨_, List.getElem_mem hjl, h⟩
           clear x4; generalize l1[j]'hjl = x at *; obtain ⟨p1, p2⟩ := x; dsimp only at d1 d2; have HI1 := Lh fun W (R : Ending -> World -> Prop) hR => pout_any p1 W (R := R) hR
           have HI2 := Lh fun W (R : Ending -> World -> Prop) hR => pout_any p2 W (R := R) hR
           have OF2 : Hid (Pt.off ⟨p1, p2⟩ = (!inm p1 || !inm p2)) := rfl; generalize inm p1 = i1 at *; generalize inm p2 = i2 at *
           cases i1 with
           | false =>
            have HP : Hid (pright kind A = 8) := by show _ = _; rw [HD2.out, OB.out (OJ.out (by rw [OF2.out]; rfl))]; rfl
            go_wp2_with (go_at_call 17; refine HI1.out _ _ ?_)
            exact HR.out _ _ HP.out hgy.out
           | true =>
            cases i2 with
            | false =>
             have HP : Hid (pright kind A = 8) := by show _ = _; rw [HD2.out, OB.out (OJ.out (by rw [OF2.out]; rfl))]; rfl
             go_wp2_with (go_at_call 17; first | (refine HI1.out _ _ ?_) | (refine HI2.out _ _ ?_))
             exact HR.out _ _ HP.out hgy.out
            | true =>
             go_wp2_with (go_at_call 17; first | (refine HI1.out _ _ ?_) | (refine HI2.out _ _ ?_))
             go_roundw
             case rel => exact ⟨j + 1, by omega, by go_num, by show _ = _; rw [OG.out, OF2.out, hoj.out]; rfl, hgy.out⟩
             case measure => simp [intOf]; omega
          ·obtain rfl : j = l1.length := by omega
           rw [List.take_length] at hoj; go_wp2; go_roundw
           case rel => exact ⟨k + 1, by omega, by go_num, by show _ = _; rw [OF.out, hof.out, hoj.out]; rfl, hgy.out⟩
           case measure => simp [intOf]; omega
        ·obtain rfl : k = A.length := by omega
         rw [List.take_length] at hof; have HP : Hid (pright kind A = 0) := by show _ = _; rw [HD2.out, hof.out]; rfl
         go_wp2; exact HR.out _ _ HP.out hgz.out
    ·go_enter Tryz.func4, Tryz.ntmps4
     go_wp2
     try clear t2
     try clear t3
     clear t1 u1 u2
     go_loopw [5] (fun i wr => ∃ (k : Nat), k <= A.length /\ i = .int .i64 k /\ Hid (∀ r ∈ A.take k, kind <= (r.l.length : Int)) /\ Hid (Grow w wr)) (fun i _ => A.length - (intOf i).toNat)
     case atStart => exact ⟨0, Nat.zero_le _, rfl, fun r hr => by simp at hr, Grow.refl _⟩
     case round =>
      obtain ⟨k, hk, rfl, hmin, hg⟩ := hrel
      by_cases hlt : k < A.length
      ·obtain ⟨b1, o1, rfl, -, -⟩ := h4 (by omega)
       have c1 : wr.cell? ⟨b1, o1 + k, none⟩ = some (A[k]'hlt).v := by
        have := rd_cell hg.out HA0.out rfl (i := k) (by simpa using hlt); rw [List.getElem_map] at this; exact this
       have r1 := HA.out (A[k]'hlt) (List.getElem_mem hlt)
       have MN : Hid (kind <= ((A[k]'hlt).l.length : Int) -> ∀ r ∈ A.take (k + 1), kind <= (r.l.length : Int)) := by
        intro h r hr; rw [List.take_succ_eq_append_getElem hlt] at hr; rcases List.mem_append.1 hr with hr | hr
        ·exact hmin.out r hr
        ·rw [List.mem_singleton.1 hr]; exact h
       have SH : Hid (((A[k]'hlt).l.length : Int) < kind -> ∃ r ∈ A, (r.l.length : Int) < kind) := fun h => ⟨_, List.getElem_mem hlt, h⟩
       clear h4 hmin; generalize A[k]'hlt = ra at *; obtain ⟨v1, l1⟩ := ra; unfold PRow.rd at r1; dsimp only at *; obtain ⟨_, X, cx, rfl, x1, x2, -, -⟩ := r1; unfold maxLen at x2
       by_cases hsh : (l1.length : Int) < kind
       ·have SH2 := Lh (SH.out hsh)
        have t5 : decide ((l1.length : Int) < kind) = true := decide_eq_true hsh; clear hsh; go_wp2; exact HR.out _ _ (HS.out SH2.out) hg.out
       ·have MN2 := Lh (MN.out (by omega))
        have t5 : decide ((l1.length : Int) < kind) = false := decide_eq_false hsh; clear MN SH hsh; go_wp2; go_roundw
        case rel => exact ⟨k + 1, by omega, by go_num, MN2.out, hg.out⟩
        case measure => simp [intOf]; omega
      ·obtain rfl : k = A.length := by omega
       rw [List.take_length] at hmin; have HD2 := Lh (HD.out hmin.out); clear hmin; go_wp2
       go_loopw [6] (fun i wz => ∃ (k : Nat), k <= A.length /\ i = .int .i64 k /\ Hid (offsR (A.take k) = false) /\ Hid (Grow w wz)) (fun i _ => A.length - (intOf i).toNat)
       case atStart => exact ⟨0, Nat.zero_le _, rfl, (show offsR [] = false from rfl), hg.out⟩
       case round =>
        obtain ⟨k, hk, rfl, hof, hgz⟩ := hrel
        by_cases hlt : k < A.length
        ·obtain ⟨b1, o1, rfl, -, -⟩ := h4 (by omega)
         have C1 : Hid (∀ W, Grow w W -> W.cell? ⟨b1, o1 + k, none⟩ = some (A[k]'hlt).v) := fun W hW => by
          have := rd_cell hW HA0.out rfl (i := k) (by simpa using hlt); rw [List.getElem_map] at this; exact this
         have r1 := HA.out (A[k]'hlt) (List.getElem_mem hlt); have OF : Hid (offsR (A.take (k + 1)) = (offsR (A.take k) || offs (A[k]'hlt).l)) := any_take_succ _ hlt; have OB : Hid (offs (A[k]'hlt).l = true -> offsR A = true) := fun h => List.any_eq_true.2 ⟨_, List.getElem_mem hlt, h⟩
         clear h4; generalize A[k]'hlt = ra at *; obtain ⟨v1, l1⟩ := ra; unfold PRow.rd at r1; dsimp only at *; have RR := Lh r1; obtain ⟨_, X, cx, rfl, x1, x2, -, x4⟩ := r1; unfold maxLen at x2; go_wp2
         go_loopw [7] (fun i wy => ∃ (j : Nat), j <= l1.length /\ i = .int .i64 j /\ Hid (offs (l1.take j) = false) /\ Hid (Grow w wy)) (fun i _ => l1.length - (intOf i).toNat)
         case atStart => exact ⟨0, Nat.zero_le _, rfl, (show offs [] = false from rfl), hgz.out⟩
         case round =>
          obtain ⟨j, hj, rfl, hoj, hgy⟩ := hrel; have c1 := C1.out _ hgy.out
          by_cases hjl : j < l1.length
          ·obtain ⟨b3, o3, rfl, -, -⟩ := x4 (by omega)
           obtain ⟨d1, d2⟩ := rd_cell2 hgy.out RR.out hjl; have OG : Hid (offs (l1.take (j + 1)) = (offs (l1.take j) || (l1[j]'hjl).off)) := any_take_succ _ hjl; have OJ : Hid ((l1[j]'hjl).off = true -> offs l1 = true) := fun h => List.any_eq_true.2 ⟨_, List.getElem_mem hjl, h⟩
           clear x4; generalize l1[j]'hjl = x at *; obtain ⟨p1, p2⟩ := x; dsimp only at d1 d2; have HI1 := Lh fun W (R : Ending -> World -> Prop) hR => pout_any p1 W (R := R) hR
           have HI2 := Lh fun W (R : Ending -> World -> Prop) hR => pout_any p2 W (R := R) hR
           have OF2 : Hid (Pt.off ⟨p1, p2⟩ = (!inm p1 || !inm p2)) := rfl; generalize inm p1 = i1 at *; generalize inm p2 = i2 at *
           cases i1 with
           | false =>
            have HP : Hid (pright kind A = 8) := by show _ = _; rw [HD2.out, OB.out (OJ.out (by rw [OF2.out]; rfl))]; rfl
            go_wp2_with (go_at_call 17; refine HI1.out _ _ ?_)
            exact HR.out _ _ HP.out hgy.out
           | true =>
            cases i2 with
            | false =>
             have HP : Hid (pright kind A = 8) := by show _ = _; rw [HD2.out, OB.out (OJ.out (by rw [OF2.out]; rfl))]; rfl
             go_wp2_with (go_at_call 17; first | (refine HI1.out _ _ ?_) | (refine HI2.out _ _ ?_))
             exact HR.out _ _ HP.out hgy.out
            | true =>
             go_wp2_with (go_at_call 17; first | (refine HI1.out _ _ ?_) | (refine HI2.out _ _ ?_))
             go_roundw
             case rel => exact ⟨j + 1, by omega, by go_num, by show _ = _; rw [OG.out, OF2.out, hoj.out]; rfl, hgy.out⟩
             case measure => simp [intOf]; omega
          ·obtain rfl : j = l1.length := by omega
           rw [List.take_length] at hoj; go_wp2; go_roundw
           case rel => exact ⟨k + 1, by omega, by go_num, by show _ = _; rw [OF.out, hof.out, hoj.out]; rfl, hgy.out⟩
           case measure => simp [intOf]; omega
        ·obtain rfl : k = A.length := by omega
         rw [List.take_length] at hof; have HP : Hid (pright kind A = 0) := by show _ = _; rw [HD2.out, hof.out]; rfl
         go_wp2; exact HR.out _ _ HP.out hgz.out
end Go.Proofs.YteeeeddeacepmaaGreatDoor
