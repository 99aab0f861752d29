import Derived.Test.YtehffeglgdcogaaChecked
import Derived.Test.YtehffeglgdcogaaBase
import Derived.Test.YtehffeglgdcogaaWire4
import Derived.Test.YtehffeglgdcogaaWireL
import Derived.Test.YtehffeglgdcogaaLex
namespace Go.Proofs.Ytehffeglgdcogaa
open Go.RowKit

/-- two lists, element by element -/
def eqBy {α β : Type} (p : α → β → Bool) : List α → List β → Bool
  | [], [] => true
  | a :: l, b :: m => p a b && eqBy p l m
  | _, _ => false
theorem eqBy_len {α β : Type} (p : α → β → Bool) : ∀ (l : List α) (m : List β), l.length ≠ m.length → eqBy p l m = false
  | [], [], h => absurd rfl h
  | [], _ :: _, _ => rfl
  | _ :: _, [], _ => rfl
  | a :: l, b :: m, h => by
    have := eqBy_len p l m (by simpa using h)
    simp [eqBy, this]
theorem eqBy_drop {α β : Type} (p : α → β → Bool) {l : List α} {m : List β} {k : Nat} (hl : k < l.length) (hm : k < m.length) : eqBy p (l.drop k) (m.drop k) = (p l[k] m[k] && eqBy p (l.drop (k + 1)) (m.drop (k + 1))) := by
  rw [List.drop_eq_getElem_cons hl, List.drop_eq_getElem_cons hm]
  rfl
theorem eqBy_end {α β : Type} (p : α → β → Bool) {l : List α} {m : List β} {k : Nat} (hl : l.length = k) (hm : m.length = k) : eqBy p (l.drop k) (m.drop k) = true := by
  rw [List.drop_eq_nil_of_le (by omega), List.drop_eq_nil_of_le (by omega)]
  rfl
theorem eqBy_refl {α : Type} (p : α → α → Bool) (h : ∀ a, p a a = true) : ∀ l, eqBy p l l = true
  | [] => rfl
  | a :: l => by simp [eqBy, h, eqBy_refl p h l]

def fsame (f g : Fld) : Bool := f.num == g.num && f.kind == g.kind && (if f.kind = 2 then f.data == g.data else f.int == g.int)
theorem fsame_refl (f : Fld) : fsame f f = true := by simp [fsame]

set_option maxRecDepth 100000 in
set_option maxHeartbeats 400000 in
theorem bytesEqual_any (a b : Value) (la lb : List UInt8) (S T : Nat → Prop) (w : World) (ha : Rd w S 1 a la.length (U8 la)) (hb : Rd w T 1 b lb.length (U8 lb)) {R : Ending → World → Prop}
    (hR : R (.returned (.bool (la == lb))) w) :
    Calls Try.prog 49 #[a, b] w R := by
  have h1 := str_u8 ha
  have h2 := str_u8 hb
  clear ha hb
  go_enter Try.func49, Try.ntmps49
  go_wp2
  exact hR

set_option maxRecDepth 100000 in
set_option maxHeartbeats 400000 in
theorem same1_any (f g : Fld) (S T : Nat → Prop) (w : World) (hf : f.ok w S) (hg : g.ok w T) {R : Ending → World → Prop}
    (hR : ∀ w', Grow w w' → R (.returned (.bool (fsame f g))) w') :
    Calls Try.prog 48 #[.agg f.cells.toArray, .agg g.cells.toArray] w R := by
  have HR := Lib.hid hR
  clear hR
  obtain ⟨num, kind, int, data, dv⟩ := f
  obtain ⟨num2, kind2, int2, data2, dv2⟩ := g
  obtain ⟨_, _, _, hf4⟩ := hf
  obtain ⟨_, _, _, hg4⟩ := hg
  have HD := Lib.hid hf4
  have HE := Lib.hid hg4
  obtain ⟨_, A, c, hdv, _, _, _, _⟩ := hf4
  obtain ⟨_, B, d, hdv2, _, _, _, _⟩ := hg4
  dsimp only at hdv hdv2
  subst hdv hdv2
  unfold Fld.cells
  dsimp only
  have HR2 : ∀ (b : Bool) (w' : World), fsame ⟨num, kind, int, data, .slice A data.length c⟩ ⟨num2, kind2, int2, data2, .slice B data2.length d⟩ = b → Grow w w' → R (.returned (.bool b)) w' := by
    rintro b w' rfl h
    exact HR.out _ h
  have HR2 := Lib.hid HR2
  clear HR
  by_cases h1 : num = num2
  · subst h1
    by_cases h2 : kind = kind2
    · subst h2
      by_cases h3 : kind = 2
      · subst h3
        go_enter Try.func48, Try.ntmps48
        go_wp2_with (go_at_call 49; refine bytesEqual_any _ _ data data2 _ _ _ ((HD.out.gr (by decide) (((Grow.refl w).al _).al _))) ((HE.out.gr (by decide) (((Grow.refl w).al _).al _))) ?_)
        exact HR2.out _ _ (by simp [fsame]) (((Grow.refl w).al _).al _)
      · have t3 : (kind == 2) = false := by simp [h3]
        have h3 := Lib.hid h3
        go_enter Try.func48, Try.ntmps48
        go_wp2
        exact HR2.out _ _ (by simp [fsame, h3.out]; first | done | omega | (rw [Bool.eq_iff_iff]; simp; omega)) (((Grow.refl w).al _).al _)
    · have t2 : (kind != kind2) = true := by simp [h2]
      have h2 := Lib.hid h2
      go_enter Try.func48, Try.ntmps48
      go_wp2
      exact HR2.out _ _ (by simp [fsame, h2.out]) (((Grow.refl w).al _).al _)
  · have t1 : (num != num2) = true := by simp [h1]
    have h1 := Lib.hid h1
    go_enter Try.func48, Try.ntmps48
    go_wp2
    exact HR2.out _ _ (by simp [fsame, h1.out]) (((Grow.refl w).al _).al _)

theorem Fld.ok_gr {w w' : World} {S : Nat → Prop} {f : Fld} (h : f.ok w S) (hg : Grow w w') : f.ok w' (· < w.heap.size) :=
  ⟨h.1, h.2.1, h.2.2.1, h.2.2.2.gr (by decide) hg⟩

set_option maxRecDepth 100000 in
set_option maxHeartbeats 400000 in
theorem equalFuncF_any (fs gs : List Fld) (a b : Value) (S T : Nat → Prop) (w : World) (ha : Flds w S a fs) (hb : Flds w T b gs) {R : Ending → World → Prop}
    (hR : ∀ w', Grow w w' → R (.returned (.bool (eqBy fsame fs gs))) w') :
    Calls Try.prog 47 #[a, b, .func (.func 48) #[] #[]] w R := by
  have HR := Lib.hid hR
  clear hR
  have ha1 := ha.1.lt (by decide)
  have hb1 := hb.1.lt (by decide)
  have hoka := Lib.hid ha.2
  have hokb := Lib.hid hb.2
  clear ha hb
  obtain ⟨_, A, c, rfl, h1, h2, _, h4⟩ := ha1
  obtain ⟨_, B, d, rfl, k1, k2, _, k4⟩ := hb1
  unfold maxLen at h2 k2
  by_cases hl : fs.length = gs.length
  · have heq : ((fs.length : Int) != gs.length) = false := by simp; omega
    have hl := Lib.hid hl
    go_enter Try.func47, Try.ntmps47
    go_wp2
    go_loopw [17] (fun i wr => ∃ k : Nat, k ≤ fs.length ∧ i = .int .i64 k ∧ Hid (eqBy fsame fs gs = eqBy fsame (fs.drop k) (gs.drop k)) ∧ Hid (Grow w wr)) (fun i _ => fs.length - (intOf i).toNat)
    case atStart => exact ⟨0, Nat.zero_le _, rfl, rfl, Grow.refl _⟩
    case round =>
      obtain ⟨k, hk, rfl, he, hg⟩ := hrel
      by_cases hlt : k < fs.length
      · have hlt2 : k < gs.length := by rw [← hl.out]; exact hlt
        obtain ⟨b1, p1, rfl, hb1, hc1⟩ := h4 (by omega)
        obtain ⟨b2, p2, rfl, hb2, hc2⟩ := k4 (by omega)
        have e1 := flat_cells Fld.cells_len hg.out hb1 hc1 hlt
        have e2 := fun (o : Obj) => flat_cells Fld.cells_len (hg.out.al o) hb2 hc2 hlt2
        have o1 := Lib.hid (Fld.ok_gr (hoka.out _ (List.getElem_mem hlt)) hg.out)
        have o2 := Lib.hid (Fld.ok_gr (hokb.out _ (List.getElem_mem hlt2)) hg.out)
        have hst := Lib.hid (eqBy_drop fsame hlt hlt2)
        clear hc1 hc2 h4 k4 hoka hokb
        generalize fs[k] = f at *
        generalize gs[k] = g at *
        obtain ⟨num, kind, int, data, dv⟩ := f
        obtain ⟨num2, kind2, int2, data2, dv2⟩ := g
        have q1 := o1.out.2.2.2
        have q2 := o2.out.2.2.2
        obtain ⟨_, A2, cc2, hdv, _, _, _, _⟩ := q1
        obtain ⟨_, B2, dd2, hdv2, _, _, _, _⟩ := q2
        dsimp only at hdv hdv2
        subst hdv hdv2
        have c0 := e1 0 _ rfl
        have c1 := e1 1 _ rfl
        have c2 := e1 2 _ rfl
        have c3 := e1 3 _ rfl
        have d0 := fun o => e2 o 0 _ rfl
        have d1 := fun o => e2 o 1 _ rfl
        have d2 := fun o => e2 o 2 _ rfl
        have d3 := fun o => e2 o 3 _ rfl
        simp only [Nat.add_zero] at c0 d0
        clear e1 e2
        have tidy : ∀ w', Grow wr w' → ∀ b, fsame ⟨num, kind, int, data, .slice A2 data.length cc2⟩ ⟨num2, kind2, int2, data2, .slice B2 data2.length dd2⟩ = b → Grow w w' ∧ (b = false → eqBy fsame fs gs = false) ∧ (b = true → Hid (eqBy fsame fs gs = eqBy fsame (fs.drop (k + 1)) (gs.drop (k + 1)))) := by
          rintro w' hw b rfl
          refine ⟨hg.out.tr hw, fun hb => ?_, fun hb => ?_⟩
          · rw [he.out, hst.out, hb, Bool.false_and]
          · show _ = _
            rw [he.out, hst.out, hb, Bool.true_and]
        have TIDY := Lib.hid tidy
        clear tidy
        go_wp2_with (go_at_call 48; refine same1_any ⟨num, kind, int, data, .slice A2 data.length cc2⟩ ⟨num2, kind2, int2, data2, .slice B2 data2.length dd2⟩ _ _ _ (Fld.ok_gr o1.out (((Grow.refl wr).al _).al _)) (Fld.ok_gr o2.out (((Grow.refl wr).al _).al _)) ?_; intro w1 hg1; have tt := TIDY.out w1 ((((Grow.refl wr).al _).al _).tr hg1) _ rfl; have TT := Lib.hid tt; clear tt hg1 d0 d1 d2 d3; generalize fsame _ _ = bb at TT ⊢)
        · cases bb with
          | false =>
            have h := HR.out
            rw [TT.out.2.1 rfl] at h
            exact h _ TT.out.1
          | true => first | contradiction | (exfalso; simp_all; done)
        · cases bb with
          | false => first | contradiction | (exfalso; simp_all; done)
          | true =>
            go_roundw
            case rel => exact ⟨k + 1, by omega, by go_num, TT.out.2.2 rfl, TT.out.1⟩
            case measure => simp [intOf]; omega
      · obtain rfl : k = fs.length := by omega
        go_wp2
        have h := HR.out
        rw [he.out, eqBy_end fsame rfl hl.out.symm] at h
        exact h _ hg.out
  · have heq : ((fs.length : Int) != gs.length) = true := by simp; omega
    have h := HR.out
    rw [eqBy_len fsame _ _ hl] at h
    have HR := Lib.hid h
    clear h hl
    go_enter Try.func47, Try.ntmps47
    go_wp2
    exact HR.out _ (Grow.refl _)

set_option maxRecDepth 100000 in
set_option maxHeartbeats 400000 in
theorem same_any (fs gs : List Fld) (a b : Value) (S T : Nat → Prop) (w : World) (ha : Flds w S a fs) (hb : Flds w T b gs) {R : Ending → World → Prop}
    (hR : ∀ w', Grow w w' → R (.returned (.bool (eqBy fsame fs gs))) w') :
    Calls Try.prog 24 #[a, b] w R := by
  have HR := Lib.hid hR
  clear hR
  go_enter Try.func24, Try.ntmps24
  go_wp2_with (go_at_call 47; refine equalFuncF_any fs gs _ _ _ _ _ ha hb ?_; intro w1 hg1)
  exact HR.out _ hg1

set_option maxRecDepth 100000 in
set_option maxHeartbeats 4000000 in
theorem rsame_any (fs gs : List Fld) (a b : Value) (S T : Nat → Prop) (w : World) (ha : Flds w S a fs) (hb : Flds w T b gs) {R : Ending → World → Prop}
    (hR : ∀ w', Grow w w' → R (.returned (.bool (eqBy fsame fs gs))) w') :
    Calls Try.prog 25 #[a, b] w R := by
  have HR := Lib.hid hR
  clear hR
  have ha1 := ha.1.lt (by decide)
  have hb1 := hb.1.lt (by decide)
  have hoka := Lib.hid ha.2
  have hokb := Lib.hid hb.2
  clear ha hb
  obtain ⟨_, A, c, rfl, h1, h2, _, h4⟩ := ha1
  obtain ⟨_, B, d, rfl, k1, k2, _, k4⟩ := hb1
  unfold maxLen at h2 k2
  by_cases hl : fs.length = gs.length
  · have heq : ((fs.length : Int) != gs.length) = false := by simp; omega
    have hl := Lib.hid hl
    go_enter Try.func25, Try.ntmps25
    go_wp2
    go_loopw [5] (fun i wr => ∃ k : Nat, k ≤ fs.length ∧ i = .int .i64 k ∧ Hid (eqBy fsame fs gs = eqBy fsame (fs.drop k) (gs.drop k)) ∧ Hid (Grow w wr)) (fun i _ => fs.length - (intOf i).toNat)
    case atStart => exact ⟨0, Nat.zero_le _, rfl, rfl, Grow.refl _⟩
    case round =>
      obtain ⟨k, hk, rfl, he, hg⟩ := hrel
      by_cases hlt : k < fs.length
      · have hlt2 : k < gs.length := by rw [← hl.out]; exact hlt
        obtain ⟨b1, p1, rfl, hb1, hc1⟩ := h4 (by omega)
        obtain ⟨b2, p2, rfl, hb2, hc2⟩ := k4 (by omega)
        have e1 := flat_cells Fld.cells_len hg.out hb1 hc1 hlt
        have e2 := flat_cells Fld.cells_len hg.out hb2 hc2 hlt2
        have g1 := fun W (h : Grow wr W) => flat_cells Fld.cells_len (hg.out.tr h) hb1 hc1 hlt
        have g2 := fun W (h : Grow wr W) => flat_cells Fld.cells_len (hg.out.tr h) hb2 hc2 hlt2
        have o1 := Fld.ok_gr (hoka.out _ (List.getElem_mem hlt)) hg.out
        have o2 := Fld.ok_gr (hokb.out _ (List.getElem_mem hlt2)) hg.out
        have hst := Lib.hid (eqBy_drop fsame hlt hlt2)
        clear hc1 hc2 h4 k4 hoka hokb
        generalize fs[k] = f at *
        generalize gs[k] = g at *
        obtain ⟨num, kind, int, data, dv⟩ := f
        obtain ⟨num2, kind2, int2, data2, dv2⟩ := g
        obtain ⟨_, _, _, q1⟩ := o1
        obtain ⟨_, _, _, q2⟩ := o2
        have s1 := fun W (h : Grow wr W) => str_u8 (q1.gr (by decide) h)
        have s2 := fun W (h : Grow wr W) => str_u8 (q2.gr (by decide) h)
        obtain ⟨_, A2, cc2, hdv, _, _, _, _⟩ := q1
        obtain ⟨_, B2, dd2, hdv2, _, _, _, _⟩ := q2
        dsimp only at hdv hdv2
        subst hdv hdv2
        have c0 := e1 0 _ rfl
        have c1 := e1 1 _ rfl
        have c2 := e1 2 _ rfl
        have c3 := e1 3 _ rfl
        have d0 := e2 0 _ rfl
        have d1 := e2 1 _ rfl
        have d2 := e2 2 _ rfl
        have d3 := e2 3 _ rfl
        simp only [Nat.add_zero] at c0 d0
        have C1 := Lib.hid fun W h => g1 W h 1 _ rfl
        have C2 := Lib.hid fun W h => g1 W h 2 _ rfl
        have C3 := Lib.hid fun W h => g1 W h 3 _ rfl
        have D2 := Lib.hid fun W h => g2 W h 2 _ rfl
        have D3 := Lib.hid fun W h => g2 W h 3 _ rfl
        have S1 := Lib.hid s1
        have S2 := Lib.hid s2
        clear e1 e2 g1 g2 s1 s2
        have fin : ∀ b, fsame ⟨num, kind, int, data, .slice A2 data.length cc2⟩ ⟨num2, kind2, int2, data2, .slice B2 data2.length dd2⟩ = b → (b = false → eqBy fsame fs gs = false) ∧ (b = true → Hid (eqBy fsame fs gs = eqBy fsame (fs.drop (k + 1)) (gs.drop (k + 1)))) := by
          rintro b rfl
          refine ⟨fun hb => ?_, fun hb => ?_⟩
          · rw [he.out, hst.out, hb, Bool.false_and]
          · show _ = _
            rw [he.out, hst.out, hb, Bool.true_and]
        have FIN := Lib.hid fin
        clear fin
        have bk : (0 : Int) ≤ k := by omega
        have bk1 : (k : Int) < fs.length := by omega
        have bk2 : (k : Int) < gs.length := by omega
        by_cases n1 : num = num2
        · have t1 : (num != num2) = false := by simp [n1]
          subst n1
          by_cases n2 : kind = kind2
          · have t2 : (kind != kind2) = false := by simp [n2]
            subst n2
            go_wp2
            go_quiet (fail)
            go_wp2
            refine wp_region_lex wr ((Grow.refl wr).dn _) [0, 1, 2, 3, 4, 5, 6, 7, 8, 9, 10, 11, 12, 13, 14, 15, 16, 17, 18, 19, 20, 21, 22, 23, 24, 25, 26, 27, 28, 29, 30, 31, 32, 33, 34, 35, 36, 37, 38, 39, 40, 41] (by kernel_rfl) (by kernel_rfl) rfl (by kernel_rfl) (by intro c a d v w h; cases d <;> exact h) ?_
            have C1 := C1.out
            have C2 := C2.out
            have C3 := C3.out
            have D2 := D2.out
            have D3 := D3.out
            have S1 := S1.out
            have S2 := S2.out
            clear c0 c1 c2 c3 d0 d1 d2 d3
            by_cases n3 : kind = 2
            · have t3 : (kind == 2) = true := by simp [n3]
              have t4 : (kind != 2) = false := by simp [n3]
              have n3 := Lib.hid n3
              by_cases n4 : data = data2
              · subst n4
                repeat (first
                  | (refine lex_skip rfl (by rfl) ?_; simp only [Act.put, List.setIfInBounds_toArray, List.set_cons_zero, List.set_cons_succ])
                  | (refine lex_take (v := ?_) rfl ?_ ?_ ?_; rotate_left; (rfl); (intro W h0 h1; go_simp; with_reducible rfl); simp only [Act.put, List.setIfInBounds_toArray, List.set_cons_zero, List.set_cons_succ]))
                refine lex_nil ?_
                go_wp2
                go_roundw
                case rel => exact ⟨k + 1, by omega, by go_num, (FIN.out true (by simp [fsame, n3.out])).2 rfl, (hg.out.dn _).dr⟩
                case measure => simp [intOf]; omega
              · have t5 : (data != data2) = true := by simp [n4]
                have t6 : (data == data2) = false := by simp [n4]
                have t7 : ((ByteArray.mk data.toArray).toList == (ByteArray.mk data2.toArray).toList) = false := by
                  rw [ByteArray.toList_mk, ByteArray.toList_mk]; exact t6
                have n4 := Lib.hid n4
                repeat (first
                  | (refine lex_skip rfl (by rfl) ?_; simp only [Act.put, List.setIfInBounds_toArray, List.set_cons_zero, List.set_cons_succ])
                  | (refine lex_take (v := ?_) rfl ?_ ?_ ?_; rotate_left; (rfl); (intro W h0 h1; go_simp; with_reducible rfl); simp only [Act.put, List.setIfInBounds_toArray, List.set_cons_zero, List.set_cons_succ]))
                refine lex_nil ?_
                go_wp2
                have h := HR.out
                rw [(FIN.out false (by simp [fsame, n3.out, n4.out])).1 rfl] at h
                exact h _ (hg.out.dn _).dr
            · have t3 : (kind == 2) = false := by simp [n3]
              have t4 : (kind != 2) = true := by simp [n3]
              have n3 := Lib.hid n3
              by_cases n4 : int = int2
              · subst n4
                repeat (first
                  | (refine lex_skip rfl (by rfl) ?_; simp only [Act.put, List.setIfInBounds_toArray, List.set_cons_zero, List.set_cons_succ])
                  | (refine lex_take (v := ?_) rfl ?_ ?_ ?_; rotate_left; (rfl); (intro W h0 h1; go_simp; with_reducible rfl); simp only [Act.put, List.setIfInBounds_toArray, List.set_cons_zero, List.set_cons_succ]))
                refine lex_nil ?_
                go_wp2
                go_roundw
                case rel => exact ⟨k + 1, by omega, by go_num, (FIN.out true (by simp [fsame, n3.out])).2 rfl, (hg.out.dn _).dr⟩
                case measure => simp [intOf]; omega
              · have t5 : ((int : Int) != int2) = true := by simp; omega
                have n4 := Lib.hid n4
                repeat (first
                  | (refine lex_skip rfl (by rfl) ?_; simp only [Act.put, List.setIfInBounds_toArray, List.set_cons_zero, List.set_cons_succ])
                  | (refine lex_take (v := ?_) rfl ?_ ?_ ?_; rotate_left; (rfl); (intro W h0 h1; go_simp; with_reducible rfl); simp only [Act.put, List.setIfInBounds_toArray, List.set_cons_zero, List.set_cons_succ]))
                refine lex_nil ?_
                go_wp2
                have h := HR.out
                rw [(FIN.out false (by simp [fsame, n3.out, n4.out])).1 rfl] at h
                exact h _ (hg.out.dn _).dr
          · have t2 : (kind != kind2) = true := by simp [n2]
            have n2 := Lib.hid n2
            go_wp2
            go_quiet (fail)
            go_wp2
            have h := HR.out
            rw [(FIN.out false (by simp [fsame, n2.out])).1 rfl] at h
            first | exact h _ (hg.out.dn _) | exact h _ ((hg.out.dn _).dn _)
        · have t1 : (num != num2) = true := by simp [n1]
          have n1 := Lib.hid n1
          go_wp2
          go_quiet (fail)
          go_wp2
          have h := HR.out
          rw [(FIN.out false (by simp [fsame, n1.out])).1 rfl] at h
          first | exact h _ (hg.out.dn _) | exact h _ ((hg.out.dn _).dn _)
      · obtain rfl : k = fs.length := by omega
        go_wp2
        have h := HR.out
        rw [he.out, eqBy_end fsame rfl hl.out.symm] at h
        exact h _ hg.out
  · have heq : ((fs.length : Int) != gs.length) = true := by simp; omega
    have h := HR.out
    rw [eqBy_len fsame _ _ hl] at h
    have HR := Lib.hid h
    clear h hl
    go_enter Try.func25, Try.ntmps25
    go_wp2
    exact HR.out _ (Grow.refl _)
end Go.Proofs.Ytehffeglgdcogaa
