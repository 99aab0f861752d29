import Derived.Test.YtfdjdfobhkmlpaaChecked
import Derived.Test.YtfdjdfobhkmlpaaCore
import Derived.Test.YtfdjdfobhkmlpaaNorm
import Derived.Test.YtfdjdfobhkmlpaaSimp
namespace Go.Proofs.Ytfdjdfobhkmlpaa
open Go.RowKit Go.Lib B

theorem cu_succ (d : Array Pt) (m : Nat) : compactUpTo d (m + 1) = compactUpTo d m ++ (if keeps d m = true then [d[m]!] else []) := by
  unfold compactUpTo
  rw [List.range_succ, List.filter_append, List.map_append]
  by_cases h : keeps d m = true <;> simp [h]
theorem keeps_zero (d : Array Pt) : keeps d 0 = true := by simp [keeps]
theorem last_cu (d : Array Pt) : ∀ k, (compactUpTo d (k + 1)).getLast? = some d[k]!
  | 0 => by rw [cu_succ, keeps_zero]; simp [compactUpTo]
  | k + 1 => by
    rw [cu_succ]
    cases h : keeps d (k + 1) with
    | true => simp
    | false =>
      have ih := last_cu d k
      have : d[k + 1]! = d[k]! := by simpa [keeps] using h
      simp [ih, this]
theorem cu_len (d : Array Pt) : ∀ k, (compactUpTo d k).length ≤ k
  | 0 => by simp [compactUpTo]
  | k + 1 => by
    have := cu_len d k
    rw [cu_succ, List.length_append]
    split <;> simp <;> omega

set_option maxRecDepth 100000 in
set_option maxHeartbeats 4000000 in
theorem rsimple_any (l : List Pt) (closed : Bool) (v : Value) (S : Nat → Prop) (w : World) (hb : Rd w S 2 v l.length (Pts l)) (hl : l.length ≤ 1000000) {R : Ending → World → Prop}
    (hR : ∀ r w', w'.ownsRow w.heap.size 36 2 r (simple l closed).length (Pts (simple l closed)) → Grow w w' → R (.returned r) w') :
    Calls Try.prog 15 #[v, .bool closed] w R := by
  have HR := Lib.hid hR
  clear hR
  have hb := hb.lt (by decide)
  have HB := Lib.hid hb
  obtain ⟨_, A0, c0, rfl, h1, h2, h3, h4⟩ := hb
  unfold maxLen at h2
  have hsd : simple l closed = if closed then (compactUpTo l.toArray l.length).take (trimLen (compactUpTo l.toArray l.length) (compactUpTo l.toArray l.length).length) else compactUpTo l.toArray l.length := rfl
  have HS := Lib.hid hsd
  clear hsd
  go_enter Try.func15, Try.ntmps15
  go_wp2
  go_loopw [6, 5] (fun i s wr => ∃ (k m c : Nat) (A : Option Addr), k ≤ l.length ∧ i = .int .i64 k ∧ s = .slice A m c ∧ m ≤ k ∧ Hid (m = (compactUpTo l.toArray k).length) ∧ wr.ownsRow w.heap.size 36 2 (.slice A m c) m (Pts (compactUpTo l.toArray k)) ∧ Hid (Grow w wr)) (fun i _ _ => l.length - (Go.RowKit.intOf i).toNat)
  case atStart => exact ⟨0, 0, 0, none, Nat.zero_le _, rfl, rfl, Nat.le_refl _, rfl, World.ownsRow_nil _ _ _ _, Grow.refl _⟩
  case round =>
    obtain ⟨k, m, c, A, hk, rfl, rfl, hmk, hm, hown, hg⟩ := hrel
    by_cases hlt : k < l.length
    · obtain ⟨b, o, rfl, hS, hc⟩ := h4 (by omega)
      have e1 := fun W (h : Grow w W) => flat_cells Pt.cells_len h hS hc hlt
      have HA : Hid (l.toArray[k]! = l[k]) := by show _ = _; simp [hlt]
      have HSu : Hid (compactUpTo l.toArray (k + 1) = compactUpTo l.toArray k ++ (if keeps l.toArray k = true then [l.toArray[k]!] else [])) := cu_succ _ _
      have HO := Lib.hid hown
      clear hc h4 h3
      generalize hx : l[k] = x at *
      have HLX := Lib.hid hx
      clear hx
      obtain ⟨x1, x2⟩ := x
      have E1 : Hid (∀ W, Grow w W → W.cell? ⟨b, o + k * 2, none⟩ = some (.int .i64 x1) ∧ W.cell? ⟨b, o + k * 2 + 1, none⟩ = some (.int .i64 x2)) := fun W h => ⟨e1 W h 0 _ rfl, e1 W h 1 _ rfl⟩
      clear e1
      rcases Nat.eq_zero_or_pos k with h0 | h0
      · subst h0
        obtain rfl : m = 0 := by omega
        have HK : Hid (keeps l.toArray 0 = true) := keeps_zero _
        clear hown
        obtain ⟨y0, y1⟩ := E1.out _ hg.out
        go_wp2
        go_quiet (fail)
        clear y0 y1
        have HG := Lib.hid (hg.out.dn nq)
        obtain ⟨y0, y1⟩ := E1.out _ HG.out
        try simp only [Nat.zero_mul, Nat.add_zero] at y0 y1
        go_wp2_with (at_builtin; refine wpList_new rfl _ _ rfl el_pt (own_grow HO.out ((Grow.refl _).dn nq)) rfl 1 _ rfl (by decide) rfl (by simp [Value.oneCell']) (by omega) HG.out ⟨Nat.le_refl _, HG.out.size⟩ ?_; intro v1 w4 hown4 hg4 hgr4 hb4; have HG4 := Lib.hid hg4; have HO4 := Lib.hid hown4; clear hg4 hgr4 hb4 hown4 y0 y1)
        go_roundw
        case rel =>
          obtain ⟨_, A', c', hv, _⟩ := Rd.own HO4.out
          refine ⟨0 + 1, 0 + 1, c', A', by omega, by go_num, hv, by omega, ?_, ?_, HG4.out⟩
          · show _ = _
            rw [HSu.out, if_pos HK.out, List.length_append, ← hm.out]; rfl
          · rw [← hv]
            exact own_eq HO4.out rfl (by rw [HSu.out, if_pos HK.out, HA.out, Pts_app]; rfl)
        case measure => simp [Go.RowKit.intOf]; omega
      · obtain ⟨k, rfl⟩ : ∃ j, k = j + 1 := ⟨k - 1, by omega⟩
        have hlast := last_cu l.toArray k
        have HY : Hid (l.toArray[k]! = l[k]'(by omega)) := by show _ = _; simp [show k < l.length by omega]
        have hmp : 0 < m := by
          rw [hm.out]
          rcases Nat.eq_zero_or_pos (compactUpTo l.toArray (k + 1)).length with h | h
          · rw [List.eq_nil_of_length_eq_zero h] at hlast; simp at hlast
          · exact h
        obtain ⟨g, rfl⟩ : ∃ g, A = some ⟨g, 0, none⟩ := by
          rcases HO.out.2 with ⟨h, h0⟩ | ⟨g, cap, cur, h, _⟩
          · injection h with _ h _; omega
          · injection h with h
            exact ⟨g, h⟩
        have hcap : m ≤ c ∧ c ≤ 9223372036854775807 := by
          obtain ⟨_, A', c', h, h1, h3, _⟩ := Rd.own HO.out
          injection h with _ _ h
          subst h
          exact ⟨h1, h3⟩
        obtain ⟨hcap1, hcap2⟩ := hcap
        have hZ : (compactUpTo l.toArray (k + 1))[m - 1]? = some (l[k]'(by omega)) := by
          rw [← HY.out, ← hlast, List.getLast?_eq_getElem?, hm.out]
        obtain ⟨hj, hZ⟩ := List.getElem?_eq_some_iff.1 hZ
        have e2 := own_pt (zs := compactUpTo l.toArray (k + 1)) HO.out hj
        rw [hZ] at e2
        have HD : Hid ((keeps l.toArray (k + 1) = true ↔ (⟨x1, x2⟩ : Pt) ≠ l[k]'(by omega))) := by
          show _ ↔ _
          rw [← HY.out, ← HA.out]
          simp [keeps]
        clear hown HY HLX hlast hZ
        generalize l[k]'(by omega) = y at *
        obtain ⟨p1, p2⟩ := y
        have z0 := e2 0 _ rfl
        have z1 := e2 1 _ rfl
        clear e2 hj
        simp only [Nat.add_zero] at z0
        obtain ⟨y0, y1⟩ := E1.out _ hg.out
        have hsub : ((m : Int) - 1) = ((m - 1 : Nat) : Int) := by omega
        have hm2 : m - 1 < m := by omega
        have t0 : ((m : Int) == 0) = false := by simp; omega
        have split : (p1 = x1 ∧ p2 = x2) ∨ ((p1 != x1) = true ∨ (p1 = x1 ∧ (p2 != x2) = true)) := by
          by_cases a : p1 = x1 <;> by_cases b : p2 = x2 <;> simp [a, b]
        rcases split with ⟨rfl, rfl⟩ | hdiff
        · have HK : Hid (¬ keeps l.toArray (k + 1) = true) := by
            show ¬ _
            rw [HD.out]; simp
          go_wp2
          go_quiet (fail)
          go_wp2
          go_roundw
          case rel => exact ⟨k + 2, m, c, _, by omega, by go_num, rfl, by omega, (by rw [HSu.out, if_neg HK.out, List.append_nil]; exact hm.out : m = (compactUpTo l.toArray (k + 1 + 1)).length), by rw [HSu.out, if_neg HK.out, List.append_nil]; exact own_grow HO.out ((Grow.refl _).dn _), hg.out.dn _⟩
          case measure => simp [Go.RowKit.intOf]; omega
        · have HK : Hid (keeps l.toArray (k + 1) = true) := by
            show _ = _
            rw [HD.out]
            rintro h
            injection h with h1 h2
            subst h1 h2
            simp at hdiff
          rcases hdiff with t2 | ⟨rfl, t2⟩
          · have t3 : (p1 == x1) = false := by simpa using t2
            go_wp2
            go_quiet (fail)
            clear y0 y1 z0 z1
            have HG := Lib.hid (hg.out.dn nq)
            obtain ⟨y0, y1⟩ := E1.out _ HG.out
            try simp only [Nat.zero_mul, Nat.add_zero] at y0 y1
            go_wp2_with (at_builtin; refine wpList_new rfl _ _ rfl el_pt (own_grow HO.out ((Grow.refl _).dn nq)) rfl 1 _ rfl (by decide) rfl (by simp [Value.oneCell']) (by omega) HG.out ⟨Nat.le_refl _, HG.out.size⟩ ?_; intro v1 w4 hown4 hg4 hgr4 hb4; have HG4 := Lib.hid hg4; have HO4 := Lib.hid hown4; clear hg4 hgr4 hb4 hown4 y0 y1)
            go_roundw
            case rel =>
              obtain ⟨_, A', c', hv, _⟩ := Rd.own HO4.out
              refine ⟨k + 1 + 1, m + 1, c', A', by omega, by go_num, hv, by omega, ?_, ?_, HG4.out⟩
              · show _ = _
                rw [HSu.out, if_pos HK.out, List.length_append, ← hm.out]; rfl
              · rw [← hv]
                exact own_eq HO4.out rfl (by rw [HSu.out, if_pos HK.out, HA.out, Pts_app]; rfl)
            case measure => simp [Go.RowKit.intOf]; omega
          · have t3 : (p2 == x2) = false := by simpa using t2
            go_wp2
            go_quiet (fail)
            clear y0 y1 z0 z1
            have HG := Lib.hid (hg.out.dn nq)
            obtain ⟨y0, y1⟩ := E1.out _ HG.out
            try simp only [Nat.zero_mul, Nat.add_zero] at y0 y1
            go_wp2_with (at_builtin; refine wpList_new rfl _ _ rfl el_pt (own_grow HO.out ((Grow.refl _).dn nq)) rfl 1 _ rfl (by decide) rfl (by simp [Value.oneCell']) (by omega) HG.out ⟨Nat.le_refl _, HG.out.size⟩ ?_; intro v1 w4 hown4 hg4 hgr4 hb4; have HG4 := Lib.hid hg4; have HO4 := Lib.hid hown4; clear hg4 hgr4 hb4 hown4 y0 y1)
            go_roundw
            case rel =>
              obtain ⟨_, A', c', hv, _⟩ := Rd.own HO4.out
              refine ⟨k + 1 + 1, m + 1, c', A', by omega, by go_num, hv, by omega, ?_, ?_, HG4.out⟩
              · show _ = _
                rw [HSu.out, if_pos HK.out, List.length_append, ← hm.out]; rfl
              · rw [← hv]
                exact own_eq HO4.out rfl (by rw [HSu.out, if_pos HK.out, HA.out, Pts_app]; rfl)
            case measure => simp [Go.RowKit.intOf]; omega
    · obtain rfl : k = l.length := by omega
      have hgc := hg.out
      generalize hC : compactUpTo l.toArray l.length = C at *
      clear hC
      clear h4 h3
      go_wp2
      go_loopw [5] (fun s5 wr => ∃ (m c : Nat) (A : Option Addr), s5 = .slice A m c ∧ m ≤ C.length ∧ wr.ownsRow w.heap.size 36 2 (.slice A m c) m (Pts (C.take m)) ∧ Hid (closed = true → trimLen C C.length = trimLen C m) ∧ Hid (closed = false → m = C.length) ∧ Hid (Grow w wr)) (fun s5 _ => match s5 with | .slice _ n _ => n | _ => 0)
      case atStart =>
        exact ⟨m, c, A, rfl, by rw [hm.out]; exact Nat.le_refl _, by have := hown; rw [hm.out] at this ⊢; rw [List.take_length]; exact this, fun _ => by rw [hm.out], fun _ => hm.out, hg.out⟩
      case round =>
        clear hown hm hmk hg
        obtain ⟨m, c, A, rfl, hm, hO, hT, hF, hG⟩ := hrel
        have hcap : m ≤ c ∧ c ≤ 9223372036854775807 := by
          obtain ⟨_, A', c', h, h1, h3, _⟩ := Rd.own hO
          injection h with _ _ h
          subst h
          exact ⟨h1, h3⟩
        obtain ⟨hcap1, hcap2⟩ := hcap
        have done : Hid (∀ n, (closed = true → trimLen C m = m) → R (.returned (.slice A m c)) (World.drewN wr n)) := by
          intro n hd
          refine HR.out _ _ ?_ (hG.out.dn _)
          have e : simple l closed = C.take m := by
            rw [HS.out]
            cases closed with
            | true => rw [if_pos rfl, hT.out rfl, hd rfl]
            | false => rw [if_neg (by simp), hF.out rfl, List.take_length]
          rw [e]
          exact own_eq (own_grow hO ((Grow.refl _).dn _)) (by rw [List.length_take]; omega) rfl
        cases closed with
        | false =>
          go_wp2
          go_quiet (fail)
          go_wp2
          exact done.out _ (by simp)
        | true =>
          by_cases hm1 : 1 < m
          · obtain ⟨g, rfl⟩ : ∃ g, A = some ⟨g, 0, none⟩ := by
              rcases hO.2 with ⟨h, h0⟩ | ⟨g, cap, cur, h, _⟩
              · omega
              · injection h with h
                exact ⟨g, h⟩
            have t1 : decide (1 < (m : Int)) = true := by simp; omega
            have e2 := own_pt hO (j := m - 1) (by rw [List.length_take]; omega)
            have e1 := own_pt hO (j := 0) (by rw [List.length_take]; omega)
            have B : Hid (C[0]? = some ((C.take m)[0]'(by rw [List.length_take]; omega)) ∧ C[m - 1]? = some ((C.take m)[m - 1]'(by rw [List.length_take]; omega))) := by
              refine ⟨?_, ?_⟩ <;> (rw [List.getElem_take]; exact List.getElem?_eq_getElem (by omega))
            have HO := Lib.hid hO
            clear hO
            generalize (C.take m)[0]'(by rw [List.length_take]; omega) = x at *
            generalize (C.take m)[m - 1]'(by rw [List.length_take]; omega) = y at *
            obtain ⟨x1, x2⟩ := x
            obtain ⟨y1, y2⟩ := y
            have c1 := e1 0 _ rfl
            have c2 := e1 1 _ rfl
            have d1 := e2 0 _ rfl
            have d2 := e2 1 _ rfl
            simp only [Nat.add_zero, Nat.zero_mul, Nat.zero_add] at c1 c2 d1
            clear e1 e2
            have hsub : ((m : Int) - 1) = ((m - 1 : Nat) : Int) := by omega
            have hm2 : m - 1 < m := by omega
            have hm3 : 0 < m := by omega
            have split : (x1 = y1 ∧ x2 = y2) ∨ ((x1 == y1) = false ∨ (x1 = y1 ∧ (x2 == y2) = false)) := by
              by_cases a : x1 = y1 <;> by_cases b : x2 = y2 <;> simp [a, b]
            rcases split with ⟨rfl, rfl⟩ | hdiff
            · have hstep : Hid (trimLen C m = trimLen C (m - 1)) := by
                obtain ⟨k, rfl⟩ : ∃ k, m = k + 1 := ⟨m - 1, by omega⟩
                show trimLen C (k + 1) = _
                rw [trimLen, if_pos ⟨by omega, by simpa using B.out.2.trans B.out.1.symm⟩]
                rfl
              clear B
              go_wp2
              go_quiet (fail)
              go_wp2
              go_roundw
              case rel => exact ⟨m - 1, c, _, by go_num, by omega, own_eq (own_cut (own_grow HO.out ((Grow.refl _).dn _)) (by omega) (by omega)) rfl (by rw [Pts_take, List.take_take, Nat.min_eq_left (by omega)]), fun _ => (by simpa using hT.out : trimLen C C.length = trimLen C m).trans hstep.out, fun h => by simp at h, hG.out.dn _⟩
              case measure => simp; omega
            · have hstop : Hid (trimLen C m = m) := by
                obtain ⟨k, rfl⟩ : ∃ k, m = k + 1 := ⟨m - 1, by omega⟩
                show trimLen C (k + 1) = k + 1
                rw [trimLen, if_neg]
                rintro ⟨_, h⟩
                have h := B.out.1.symm.trans ((by simpa using h.symm : C[0]? = C[k + 1 - 1]?).trans B.out.2)
                injection h with h
                injection h with h1 h2
                subst h1 h2
                simp at hdiff
              clear B
              rcases hdiff with t2 | ⟨rfl, t2⟩
              all_goals
                go_wp2
                go_quiet (fail)
                go_wp2
                exact done.out _ (fun _ => hstop.out)
          · have t1 : decide (1 < (m : Int)) = false := by simp; omega
            have hstop : Hid (trimLen C m = m) := by
              match m, hm1 with
              | 0, _ => rfl
              | 1, _ => show trimLen C 1 = 1; simp [trimLen]
              | m + 2, h => omega
            go_wp2
            go_quiet (fail)
            go_wp2
            exact done.out _ (fun _ => hstop.out)
