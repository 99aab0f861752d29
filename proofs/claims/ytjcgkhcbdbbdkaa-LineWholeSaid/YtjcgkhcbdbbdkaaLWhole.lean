/-
  LineWhole, walked.
-/
import Derived.Test.YtjcgkhcbdbbdkaaChecked
import Derived.Test.YtjcgkhcbdbbdkaaLWP
import Derived.Test.YtjcgkhcbdbbdkaaLWS
import Derived.Test.YtjcgkhcbdbbdkaaRRP
namespace Go.Proofs.Ytjcgkhcbdbbdkaa
open Go.RowKit B

theorem fr_ok24 {f : Fr} (h : f.right = true) : f.ok := by
  obtain ⟨h1, h2, h3, h4, -⟩ := Fr.right_iff h
  exact ⟨by omega, by omega, by omega, by omega⟩
theorem rt_ok24 {s : Spot} (h : s.rt) : s.ok := ⟨fr_ok24 h.1, fr_ok24 h.2⟩
theorem whole_cmp {l : List Pt} {lo hi : Int} (he : lineE l lo hi = 0) : ∀ part ∈ clipR l lo hi, ∀ s ∈ part, s.rt ∧ 0 ≤ fcmpS s.x lo ∧ fcmpS s.x hi ≤ 0 ∧ 0 ≤ fcmpS s.y lo ∧ fcmpS s.y hi ≤ 0 := by
  intro part hp s hs
  obtain ⟨hr, e1, e2, e3, e4⟩ := whole_in he part hp s hs
  exact ⟨hr, (fcmp_val hr.1 lo).1.2 e1, (fcmp_val hr.1 hi).2.2 e2, (fcmp_val hr.2 lo).1.2 e3, (fcmp_val hr.2 hi).2.2 e4⟩
theorem wantS_last (l : List Pt) (k : Nat) (hk : k < l.length) : (wantS (l.take (k + 1))).getLast? = some (wholeSpot l[k]) := by
  unfold wantS
  rw [List.take_succ_eq_append_getElem hk, List.map_append, List.foldl_append]
  show (putS _ (wholeSpot l[k])).getLast? = _
  unfold putS
  split
  · rename_i h; simpa using h
  · simp
theorem want_step (l : List Pt) (k : Nat) (hk : k < l.length) : ((k = 0 ∨ ∀ h : k - 1 < l.length, l[k] ≠ l[k - 1]) → wantS (l.take (k + 1)) = wantS (l.take k) ++ [wholeSpot l[k]]) ∧ (∀ h : k - 1 < l.length, 0 < k → l[k] = l[k - 1] → wantS (l.take (k + 1)) = wantS (l.take k)) := by
  have e : wantS (l.take (k + 1)) = putS (wantS (l.take k)) (wholeSpot l[k]) := by
    unfold wantS
    rw [List.take_succ_eq_append_getElem hk, List.map_append, List.foldl_append]
    rfl
  rw [e]
  constructor
  · intro h
    by_cases h0 : k = 0
    · subst h0
      rfl
    · have hk1 : k - 1 < l.length := by omega
      have h := h.resolve_left h0 hk1
      have hl := wantS_last l (k - 1) (by omega)
      rw [show k - 1 + 1 = k by omega] at hl
      unfold putS
      rw [hl, if_neg]
      intro e
      apply h
      injection e with e
      unfold wholeSpot at e
      injection e with e1 e2
      injection e1 with e1
      injection e2 with e2
      generalize l[k] = x at *
      generalize l[k - 1] = y at *
      obtain ⟨x1, x2⟩ := x
      obtain ⟨y1, y2⟩ := y
      dsimp only at e1 e2
      rw [e1, e2]
  · intro h h0 he
    have hl := wantS_last l (k - 1) h
    rw [show k - 1 + 1 = k by omega] at hl
    unfold putS
    rw [hl, he, if_pos rfl]
theorem wantS_len (l : List Pt) : ∀ k, k ≤ l.length → (wantS (l.take k)).length ≤ k
  | 0, _ => Nat.le_refl _
  | k + 1, h => by
    have h1 := wantS_len l k (by omega)
    obtain ⟨s1, s2⟩ := want_step l k (by omega)
    have hk1 : k - 1 < l.length := by omega
    by_cases h0 : k = 0 ∨ ∀ h : k - 1 < l.length, l[k] ≠ l[k - 1]
    · rw [s1 h0, List.length_append]
      show _ + 1 ≤ _
      omega
    · have hk0 : 0 < k := Nat.pos_of_ne_zero fun e => h0 (.inl e)
      have he : l[k] = l[k - 1] := by
        by_cases e : l[k] = l[k - 1]
        · exact e
        · exact absurd (.inr fun _ => e) h0
      rw [s2 hk1 hk0 he]
      omega

set_option maxRecDepth 100000 in
set_option maxHeartbeats 16000000 in
theorem lineWhole_walk (l : List Pt) (lo hi : Int) (a : Value) (S : Nat → Prop) (w : World) (hl : Rd w S 2 a l.length (Pts l))
    {R : Ending → World → Prop} (hR : ∀ w', Grow w w' → R (.returned (.bool true)) w') :
    Calls Try.prog 10 #[a, .int .i64 lo, .int .i64 hi] w R := by
  have HR := Lib.hid hR
  clear hR
  have hl := hl.lt (by decide)
  have HL := Lib.hid hl
  obtain ⟨_, A, c, rfl, k1, k2, k3, k4⟩ := hl
  unfold maxLen at k2
  clear k3
  have G0 := Lib.hid (Grow.refl w)
  have RE := Lib.hid fun (R : Ending → World → Prop) hR => rlineE_any l lo hi _ _ w HL.out (R := R) hR
  by_cases hl1 : 60 < l.length
  · have t1 : decide ((60 : Int) < (l.length : Int)) = true := by rw [decide_eq_true_eq]; omega
    clear k4
    go_enter Try.func10, Try.ntmps10
    go_wp2_with fail
    go_at_call 15
    refine live24_any _ ?_
    intro w9 hg9
    have G9 := Lib.hid (G0.out.tr hg9)
    clear hg9
    go_wp2
    exact HR.out _ G9.out
  · have t1 : decide ((60 : Int) < (l.length : Int)) = false := by rw [decide_eq_false_iff_not]; omega
    by_cases he : lineE l lo hi = 0
    · rw [he] at RE
      have he' : lineE l.reverse lo hi = 0 := by rw [lineE_turn]; exact he
      have CA := Lib.hid fun W (h : Grow w W) (R : Ending → World → Prop) hR => clipL_any l lo hi _ _ W (HL.out.gr (by decide) h) (by omega) (R := R) hR
      have CB := Lib.hid fun W v' S (h : Rd W S 2 v' l.reverse.length (Pts l.reverse)) (R : Ending → World → Prop) hR => clipL_any l.reverse lo hi v' S W h (by rw [List.length_reverse]; omega) (R := R) hR
      have CI := Lib.hid (whole_cmp he)
      have SF := Lib.hid fun h0 h1 => whole_self he h0 h1
      rw [he] at CA
      rw [he', whole_back he] at CB
      clear he he'
      generalize clipR l lo hi = PA at *
      go_enter Try.func10, Try.ntmps10
      go_wp2_with fail
      go_at_call 19
      refine RE.out _ ?_
      intro w1 hg1
      have G1 := Lib.hid hg1
      clear hg1 RE t1
      go_wp2_with fail
      go_at_call 33
      refine CA.out _ G1.out _ ?_
      intro r5 rows5 w5 hO5 hR5 hE5 hg5
      have G5 := Lib.hid (G1.out.tr hg5)
      have HO5 := Lib.hid hO5
      have HR5 := Lib.hid hR5
      have HE5 := Lib.hid hE5
      obtain ⟨A5, c5, rfl⟩ := own_slice hO5
      clear hO5 hR5 hE5 hg5 CA G1
      have zl : IntKind.i64.wrap ((l.length : Int) - 1) = (l.length : Int) - 1 := IntWalk.i64_in _ (by omega)
      go_wp2
      clear zl
      go_loopw [11, 9, 10] (fun i s ins wr => ∃ (k : Nat), k ≤ l.length ∧ i = .int .i64 ((k : Int) - 1) ∧ wr.ownsRow w5.heap.size 23 2 s (l.length - k) (Pts (l.drop k).reverse) ∧ ins = .bool ((l.drop k).all fun p => p.inside lo hi) ∧ Hid (Grow w5 wr)) (fun i _ _ _ => (intOf i + 1).toNat)
      case atStart => exact ⟨l.length, Nat.le_refl _, rfl, by rw [List.drop_length, Nat.sub_self]; exact World.ownsRow_nil _ _ _ _, by rw [List.drop_length]; rfl, Grow.refl _⟩
      case round =>
        obtain ⟨k, hk, rfl, hown, rfl, hg⟩ := hrel
        obtain ⟨ap, cp, rfl⟩ := own_slice hown
        by_cases h0 : 0 < k
        · obtain ⟨j, rfl⟩ : ∃ j, k = j + 1 := ⟨k - 1, by omega⟩
          have hlt : j < l.length := by omega
          obtain ⟨b, o, rfl, hS, hc⟩ := k4 (by omega)
          have e0 := fun W (h : Grow w W) => flat_cells Pt.cells_len h hS hc hlt
          have DR : Hid (Pts (l.drop j).reverse = Pts (l.drop (j + 1)).reverse ++ (l[j]'hlt).cells) := by
            show _ = _
            rw [List.drop_eq_getElem_cons hlt, List.reverse_cons, Pts_app]
            simp [Pts]
          have DA : Hid (((l.drop j).all fun p => p.inside lo hi) = ((l[j]'hlt).inside lo hi && (l.drop (j + 1)).all fun p => p.inside lo hi)) := by
            show _ = _
            rw [List.drop_eq_getElem_cons hlt]
            rfl
          have IP := Lib.hid fun W (R : Ending → World → Prop) hR => inside_any (l[j]'hlt) lo hi W (R := R) hR
          have E0 : Hid (∀ W, Grow w W → W.cell? ⟨b, o + j * 2, none⟩ = some (.int .i64 (l[j]'hlt).x) ∧ W.cell? ⟨b, o + j * 2 + 1, none⟩ = some (.int .i64 (l[j]'hlt).y)) := fun W h => ⟨e0 W h 0 _ rfl, e0 W h 1 _ rfl⟩
          have HO := Lib.hid hown
          clear e0 hc k4 hown
          generalize hbp : (l[j]'hlt).inside lo hi = bp at *
          clear hbp
          generalize l[j]'hlt = x at *
          obtain ⟨x1, x2⟩ := x
          unfold Pt.cells at IP DR
          dsimp only at IP E0 DR
          have zj : ((j + 1 : Nat) : Int) - 1 = (j : Int) := by omega
          have zw : IntKind.i64.wrap ((j : Int) - 1) = (j : Int) - 1 := IntWalk.i64_in _ (by omega)
          rw [zj]
          obtain ⟨ins, hins⟩ : ∃ ins, ((l.drop (j + 1)).all fun p => p.inside lo hi) = ins := ⟨_, rfl⟩
          rw [hins] at DA ⊢
          clear hins
          obtain ⟨y0, y1⟩ := E0.out wr (G5.out.tr hg.out)
          go_upto_region 10 with (at_builtin; refine wpList_newAt rfl _ _ rfl el_pt HO.out rfl 1 _ rfl _ rfl (by decide) rfl (by simp [Value.oneCell']) (by omega) hg.out ⟨Nat.le_refl _, hg.out.size⟩ ?_; intro v6 w6 hO6 hg6 hgr6 hb6)
          have HO6 := Lib.hid (own_eq hO6 (show l.length - (j + 1) + 1 = l.length - j by omega) DR.out.symm)
          have hg := Lib.hid hg6
          obtain ⟨A6, c6, rfl⟩ := own_slice hO6
          clear hO6 hg6 hgr6 hb6 HO y0 y1 DR
          obtain ⟨y0, y1⟩ := E0.out w6 (G5.out.tr hg.out)
          cases ins with
          | false =>
            rw [Bool.and_false] at DA
            clear IP
            go_wp2
            go_roundw
            case rel => exact ⟨j, by omega, rfl, HO6.out, by rw [DA.out], hg.out⟩
            case measure => simp only [intOf]; omega
          | true =>
            rw [Bool.and_true] at DA
            go_wp2_with fail
            go_at_call 14
            refine IP.out _ _ ?_
            intro w7 hg7
            have hg := Lib.hid (hg.out.tr hg7)
            have HO7 := Lib.hid (own_grow HO6.out hg7)
            clear hg7 HO6 y0 y1 IP
            go_wp2
            go_roundw
            case rel => exact ⟨j, by omega, rfl, HO7.out, by rw [DA.out], hg.out⟩
            case measure => simp only [intOf]; omega
        · obtain rfl : k = 0 := by omega
          rw [List.drop_zero] at hown ⊢
          simp only [Nat.sub_zero] at hown ⊢
          have HBK := Lib.hid (Rd.own (own_eq hown List.length_reverse.symm rfl))
          have G6 := Lib.hid (G5.out.tr hg.out)
          have HO5 := Lib.hid (own_grow HO5.out hg.out)
          have EA : Hid (∀ x ∈ rows5, Rd wr (· < wr.heap.size) 6 x.v x.l.length (Spots x.l)) := fun x hx => ((HE5.out x hx).gr (by decide) hg.out).up hg.out.size
          obtain ⟨ins, hins⟩ : ∃ ins, (l.all fun p => p.inside lo hi) = ins := ⟨_, rfl⟩
          rw [hins]
          have HINS := Lib.hid hins
          clear hins hown hg HE5
          have hz : decide ((0 : Int) ≤ ((0 : Nat) : Int) - 1) = false := by decide
          go_wp2_with fail
          clear hz
          go_at_call 33
          refine CB.out _ _ _ HBK.out _ ?_
          intro r6 rows6 w6 hO6 hR6 hE6 hg6
          have G6 := Lib.hid (G6.out.tr hg6)
          have RA := Lib.hid (Rd.own_lt (own_grow HO5.out hg6))
          have RB := Lib.hid (Rd.own_lt hO6)
          have EA : Hid (∀ x ∈ rows5, Rd w6 (· < w6.heap.size) 6 x.v x.l.length (Spots x.l)) := fun x hx => ((EA.out x hx).gr (by decide) hg6).up hg6.size
          have EB := Lib.hid hE6
          have HR6 := Lib.hid hR6
          obtain ⟨A6, c6, rfl⟩ := own_slice hO6
          clear hO6 hR6 hE6 hg6 CB HO5 HBK
          have LP : Hid (PA.length = rows5.length) := by show _ = _; have h1 := congrArg List.length HR5.out; rw [List.length_map] at h1; exact h1.symm
          have LE : Hid (rows6.length = rows5.length) := by show _ = _; have h2 := congrArg List.length HR6.out; simp only [List.length_map, List.length_reverse] at h2; rw [h2, LP.out]
          rw [LE.out]
          rw [LE.out] at RB
          have RW : Hid (∀ (i r : Nat) (h : i < rows5.length) (h' : r < rows6.length), i + r + 1 = rows5.length → rows6[r].l = rows5[i].l.reverse ∧ rows5[i].l ∈ PA) := by
            intro i r h h' e
            have h1 : (rows5.map SRow.l)[i]? = PA[i]? := by rw [HR5.out]
            have h2 : (rows6.map SRow.l)[r]? = ((PA.map List.reverse).reverse)[r]? := by rw [HR6.out]
            rw [List.getElem?_map, List.getElem?_eq_getElem h, Option.map_some] at h1
            rw [List.getElem?_reverse (by rw [List.length_map, LP.out]; omega), List.length_map, LP.out, show rows5.length - 1 - r = i by omega, List.getElem?_map, List.getElem?_eq_getElem h', List.getElem?_map, ← h1] at h2
            simp only [Option.map_some, Option.some.injEq] at h2
            exact ⟨h2, List.mem_of_getElem? h1.symm⟩
          go_wp2_with fail
          go_at_call 34
          refine code24_any _ _ ?_
          go_wp2_with fail
          go_at_call 34
          refine code24_any _ _ ?_
          obtain ⟨na, hna⟩ : ∃ na, na = rows5.length := ⟨_, rfl⟩
          have NA := Lib.hid hna
          rw [← hna] at RA RB ⊢
          clear hna
          go_wp2
          go_loopw [14] (fun i wr => ∃ (k : Nat), k ≤ na ∧ i = .int .i64 k ∧ Hid (Grow w6 wr)) (fun i _ => na - (intOf i).toNat)
          case atStart => exact ⟨0, Nat.zero_le _, rfl, Grow.refl _⟩
          case round =>
            obtain ⟨j, hj, rfl, hg⟩ := hrel
            by_cases hlt : j < na
            · obtain ⟨r, hr⟩ : ∃ r, j + r + 1 = na := ⟨na - 1 - j, by omega⟩
              have hrlt : r < na := by omega
              have HRJ := Lib.hid hr
              have hj5 : j < rows5.length := by have := NA.out; omega
              have hr6 : r < rows6.length := by have := NA.out; have := LE.out; omega
              obtain ⟨_, A', c', hv, p1, p2, -, p4⟩ := RA.out
              injection hv with e1 e2 e3
              clear e2
              subst e1 e3
              obtain ⟨_, A', c', hv, -, q2, -, q4⟩ := RB.out
              injection hv with e1 e2 e3
              clear e2
              subst e1 e3
              obtain ⟨b5, o5, rfl, hS5, hc5⟩ := p4 (by omega)
              obtain ⟨b6, o6, rfl, hS6, hc6⟩ := q4 (by omega)
              obtain ⟨eRW, mRW⟩ := RW.out j r hj5 hr6 (hr.trans NA.out)
              clear hr
              have HA7 := EA.out _ (List.getElem_mem hj5)
              obtain ⟨xl, A7, c7, hv7, m1, m2, m3, m4⟩ := EA.out _ (List.getElem_mem hj5)
              obtain ⟨yl, A8, c8, hv8, n1, n2, n3, n4⟩ := EB.out _ (List.getElem_mem hr6)
              have IN := Lib.hid (CI.out _ mRW)
              have C5 : Hid (∀ W, Grow w6 W → W.cell? ⟨b5, o5 + j, none⟩ = some (.slice A7 rows5[j].l.length c7)) := fun W h => by
                refine (h.cell (p := ⟨b5, o5 + j, none⟩) hS5).trans (hc5 _ _ ?_)
                rw [List.getElem?_map, List.getElem?_eq_getElem hj5, Option.map_some, hv7]
              have C6 : Hid (∀ W, Grow w6 W → W.cell? ⟨b6, o6 + r, none⟩ = some (.slice A8 rows5[j].l.length c8)) := fun W h => by
                refine (h.cell (p := ⟨b6, o6 + r, none⟩) hS6).trans (hc6 _ _ ?_)
                rw [List.getElem?_map, List.getElem?_eq_getElem hr6, Option.map_some, hv8, eRW, List.length_reverse]
              rw [hv7] at HA7
              have LS := Lib.hid fun W (h : Grow w6 W) (R : Ending → World → Prop) hR => lsame_any _ _ rows5[j].l _ _ W (HA7.gr (by decide) h) (HA7.gr (by decide) h) (R := R) hR
              rw [eRW, List.length_reverse] at n1 n4
              unfold maxLen at m2 n2 p2
              generalize rows5[j].l = la at *
              clear p4 q4 hc5 hc6 hv7 hv8 eRW mRW xl yl q2 m3 n3 HA7 k4
              obtain ⟨nb, hnb⟩ : ∃ nb, nb = la.length := ⟨_, rfl⟩
              have NB := Lib.hid hnb
              rw [← hnb] at C5 C6 m1 m4 n1 n4 LS
              clear hnb
              have zA : IntKind.i64.wrap ((na : Int) - 1) = (na : Int) - 1 := IntWalk.i64_in _ (by omega)
              have zB : IntKind.i64.wrap ((na : Int) - 1 - (j : Int)) = (r : Int) := by rw [show (na : Int) - 1 - (j : Int) = (r : Int) by have := HRJ.out; omega]; exact IntWalk.i64_in _ (by omega)
              go_wp2_with fail
              refine wp_region_lexT (Grow w6) (hg.out.dr) 13 [0, 1, 2, 3, 4, 5, 6, 7, 8, 9, 10, 11, 12] (by kernel_rfl) (by kernel_rfl) (by intro c a d v w h; cases d <;> exact h) ?_
              iterate 13 (apply lext_take; exact rfl; exact rfl; (intro W hW; have z5 := C5.out W hW; have z6 := C6.out W hW; (try clear hW); go_simp; with_reducible rfl); try simp only [Act.put, List.setIfInBounds_toArray, List.set_cons_zero, List.set_cons_succ])
              refine lext_nil ?_
              simp only [List.drop_succ_cons, List.drop_zero]
              have hg := Lib.hid hg.out.dr
              generalize wr.drew = w7 at *
              clear zA zB
              have zn : ((nb : Int) != nb) = false := by simp
              go_wp2_with fail
              go_at_call 37
              refine LS.out _ hg.out _ ?_
              intro w8 hg8
              have hg := Lib.hid (hg.out.tr hg8)
              clear hg8 LS zn n1
              go_wp2
              go_loopw [17] (fun i wr => ∃ (k : Nat), k ≤ nb ∧ i = .int .i64 k ∧ Hid (Grow w6 wr)) (fun i _ => nb - (intOf i).toNat)
              case atStart => exact ⟨0, Nat.zero_le _, rfl, hg.out⟩
              case round =>
                obtain ⟨m, hm, rfl, hg2⟩ := hrel
                by_cases hmt : m < nb
                · obtain ⟨s, hs⟩ : ∃ s, m + s + 1 = nb := ⟨nb - 1 - m, by omega⟩
                  have hslt : s < nb := by omega
                  have HSM := Lib.hid hs
                  clear hs
                  have hml : m < la.length := by have := NB.out; omega
                  have hsl : s < la.reverse.length := by rw [List.length_reverse]; have := NB.out; omega
                  obtain ⟨b7, o7, rfl, hS7, hc7⟩ := m4 (by omega)
                  obtain ⟨b8, o8, rfl, hS8, hc8⟩ := n4 (by omega)
                  have e7 := fun W (h : Grow w6 W) => flat_cells Spot.cells_len h hS7 hc7 hml
                  have e8 := fun W (h : Grow w6 W) => flat_cells Spot.cells_len h hS8 hc8 hsl
                  have er : la.reverse[s] = la[m] := by
                    rw [List.getElem_reverse]
                    congr 1
                    have := NB.out
                    have := HSM.out
                    omega
                  rw [er] at e8
                  obtain ⟨⟨rt1, rt2⟩, g1, g2, g3, g4⟩ := IN.out _ (List.getElem_mem hml)
                  have so : (la[m]'hml).ok := rt_ok24 ⟨rt1, rt2⟩
                  have S3 := Lib.hid fun W (R : Ending → World → Prop) hR => fcmp_any (la[m]'hml).x lo W so.1 (R := R) hR
                  have S4 := Lib.hid fun W (R : Ending → World → Prop) hR => fcmp_any (la[m]'hml).x hi W so.1 (R := R) hR
                  have S5 := Lib.hid fun W (R : Ending → World → Prop) hR => fcmp_any (la[m]'hml).y lo W so.2 (R := R) hR
                  have S6 := Lib.hid fun W (R : Ending → World → Prop) hR => fcmp_any (la[m]'hml).y hi W so.2 (R := R) hR
                  unfold fcmpS at g1 g2 g3 g4
                  generalize (if (la[m]'hml).x.right = true then orL [cmpI' (la[m]'hml).x.q lo, cmpI' ((la[m]'hml).x.r : Int) 0] else 0) = n1 at *
                  generalize (if (la[m]'hml).x.right = true then orL [cmpI' (la[m]'hml).x.q hi, cmpI' ((la[m]'hml).x.r : Int) 0] else 0) = n2 at *
                  generalize (if (la[m]'hml).y.right = true then orL [cmpI' (la[m]'hml).y.q lo, cmpI' ((la[m]'hml).y.r : Int) 0] else 0) = n3 at *
                  generalize (if (la[m]'hml).y.right = true then orL [cmpI' (la[m]'hml).y.q hi, cmpI' ((la[m]'hml).y.r : Int) 0] else 0) = n4' at *
                  have y1 : decide (n1 < 0) = false := by rw [decide_eq_false_iff_not]; omega
                  have y2 : decide (0 < n2) = false := by rw [decide_eq_false_iff_not]; omega
                  have y3 : decide (n3 < 0) = false := by rw [decide_eq_false_iff_not]; omega
                  have y4 : decide (0 < n4') = false := by rw [decide_eq_false_iff_not]; omega
                  have zC : IntKind.i64.wrap ((nb : Int) - 1) = (nb : Int) - 1 := IntWalk.i64_in _ (by omega)
                  have zD : IntKind.i64.wrap ((nb : Int) - 1 - (m : Int)) = (s : Int) := by rw [show (nb : Int) - 1 - (m : Int) = (s : Int) by have := HSM.out; omega]; exact IntWalk.i64_in _ (by omega)
                  have E0 := Lib.hid fun W (h : Grow w6 W) => (⟨e7 W h 0 _ rfl, e7 W h 1 _ rfl, e7 W h 2 _ rfl, e7 W h 3 _ rfl, e7 W h 4 _ rfl, e7 W h 5 _ rfl⟩ : W.cell? ⟨b7, o7 + m * 6, none⟩ = some (.int .i64 (la[m]'hml).x.q) ∧ W.cell? ⟨b7, o7 + m * 6 + 1, none⟩ = some (.int .u64 ((la[m]'hml).x.r : Nat)) ∧ W.cell? ⟨b7, o7 + m * 6 + 2, none⟩ = some (.int .u64 ((la[m]'hml).x.d : Nat)) ∧ W.cell? ⟨b7, o7 + m * 6 + 3, none⟩ = some (.int .i64 (la[m]'hml).y.q) ∧ W.cell? ⟨b7, o7 + m * 6 + 4, none⟩ = some (.int .u64 ((la[m]'hml).y.r : Nat)) ∧ W.cell? ⟨b7, o7 + m * 6 + 5, none⟩ = some (.int .u64 ((la[m]'hml).y.d : Nat)))
                  have E1 := Lib.hid fun W (h : Grow w6 W) => (⟨e8 W h 0 _ rfl, e8 W h 1 _ rfl, e8 W h 2 _ rfl, e8 W h 3 _ rfl, e8 W h 4 _ rfl, e8 W h 5 _ rfl⟩ : W.cell? ⟨b8, o8 + s * 6, none⟩ = some (.int .i64 (la[m]'hml).x.q) ∧ W.cell? ⟨b8, o8 + s * 6 + 1, none⟩ = some (.int .u64 ((la[m]'hml).x.r : Nat)) ∧ W.cell? ⟨b8, o8 + s * 6 + 2, none⟩ = some (.int .u64 ((la[m]'hml).x.d : Nat)) ∧ W.cell? ⟨b8, o8 + s * 6 + 3, none⟩ = some (.int .i64 (la[m]'hml).y.q) ∧ W.cell? ⟨b8, o8 + s * 6 + 4, none⟩ = some (.int .u64 ((la[m]'hml).y.r : Nat)) ∧ W.cell? ⟨b8, o8 + s * 6 + 5, none⟩ = some (.int .u64 ((la[m]'hml).y.d : Nat)))
                  clear e7 e8 hc7 hc8 m4 n4 er hsl rt1 rt2 g1 g2 g3 g4 so
                  generalize (la[m]'hml) = x at *
                  obtain ⟨⟨xa, xb, xc⟩, ⟨xd, xe, xf⟩⟩ := x
                  unfold Fr.cells at S3 S4 S5 S6
                  dsimp only at E0 E1 S3 S4 S5 S6
                  go_wp2_with fail
                  refine wp_region_lexT (Grow w6) (hg2.out.dr) 50 [0, 1, 2, 3, 4, 5, 6, 7, 8, 9, 10, 11, 12, 13, 14, 15, 16, 17, 18, 19, 20, 21, 22, 23, 24, 25, 26, 27, 28, 29, 30, 31, 32, 33, 34, 35, 36, 37, 38, 39, 40, 41, 42, 43, 44, 45, 46, 47, 48, 49] (by kernel_rfl) (by kernel_rfl) (by intro c a d v w h; cases d <;> exact h) ?_
                  have hg2 := Lib.hid hg2.out.dr
                  generalize wr.drew = w3d at *
                  iterate 20 (apply lext_take; exact rfl; exact rfl; (intro W hW; obtain ⟨x0, x1, x2, x3, x4, x5⟩ := E0.out W hW; obtain ⟨v0, v1, v2, v3, v4, v5⟩ := E1.out W hW; (try clear hW); go_simp; with_reducible rfl); try simp only [Act.put, List.setIfInBounds_toArray, List.set_cons_zero, List.set_cons_succ])
                  apply lext_turn; exact rfl; exact rfl; exact rfl; intro K hK; go_simp; go_at_call 24; refine S3.out _ _ ?_; intro w9 hg9
                  have hg2 := Lib.hid (hg2.out.tr hg9)
                  refine hK.out _ _ hg2.out ?_
                  clear hK hg9 S3
                  try simp only [Act.put, List.setIfInBounds_toArray, List.set_cons_zero, List.set_cons_succ]
                  iterate 9 (apply lext_take; exact rfl; exact rfl; (intro W hW; obtain ⟨x0, x1, x2, x3, x4, x5⟩ := E0.out W hW; (try clear hW); go_simp; with_reducible rfl); try simp only [Act.put, List.setIfInBounds_toArray, List.set_cons_zero, List.set_cons_succ])
                  apply lext_turn; exact rfl; exact rfl; exact rfl; intro K hK; go_simp; go_at_call 24; refine S4.out _ _ ?_; intro w9 hg9
                  have hg2 := Lib.hid (hg2.out.tr hg9)
                  refine hK.out _ _ hg2.out ?_
                  clear hK hg9 S4
                  try simp only [Act.put, List.setIfInBounds_toArray, List.set_cons_zero, List.set_cons_succ]
                  iterate 9 (apply lext_take; exact rfl; exact rfl; (intro W hW; obtain ⟨x0, x1, x2, x3, x4, x5⟩ := E0.out W hW; (try clear hW); go_simp; with_reducible rfl); try simp only [Act.put, List.setIfInBounds_toArray, List.set_cons_zero, List.set_cons_succ])
                  apply lext_turn; exact rfl; exact rfl; exact rfl; intro K hK; go_simp; go_at_call 24; refine S5.out _ _ ?_; intro w9 hg9
                  have hg2 := Lib.hid (hg2.out.tr hg9)
                  refine hK.out _ _ hg2.out ?_
                  clear hK hg9 S5
                  try simp only [Act.put, List.setIfInBounds_toArray, List.set_cons_zero, List.set_cons_succ]
                  iterate 9 (apply lext_take; exact rfl; exact rfl; (intro W hW; obtain ⟨x0, x1, x2, x3, x4, x5⟩ := E0.out W hW; (try clear hW); go_simp; with_reducible rfl); try simp only [Act.put, List.setIfInBounds_toArray, List.set_cons_zero, List.set_cons_succ])
                  refine lext_nil ?_
                  simp only [List.drop_succ_cons, List.drop_zero]
                  go_wp2_with fail
                  go_at_call 24
                  refine S6.out _ _ ?_
                  intro w9 hg9
                  have hg2 := Lib.hid (hg2.out.tr hg9)
                  clear hg9 S6 E0 E1 C5 C6 zC zD
                  go_wp2
                  go_roundw
                  case rel => exact ⟨m + 1, by omega, by go_num, hg2.out⟩
                  case measure => simp [intOf]; omega
                · obtain rfl : m = nb := by omega
                  go_wp2
                  go_roundw
                  case rel => exact ⟨j + 1, by omega, by go_num, hg2.out⟩
                  case measure => simp [intOf]; omega
            · obtain rfl : j = na := by omega
              have G10 := Lib.hid (G6.out.tr hg.out)
              have EA : Hid (∀ x ∈ rows5, Rd wr (· < w6.heap.size) 6 x.v x.l.length (Spots x.l)) := fun x hx => (EA.out x hx).gr (by decide) hg.out
              have RA := Lib.hid (RA.out.gr (by decide) hg.out)
              have HGW := Lib.hid hg.out
              clear hg CI RB EB HR6 LE RW
              cases ins with
              | false =>
                clear k4
                go_wp2_with fail
                go_at_call 15
                refine live24_any _ ?_
                intro w9 hg9
                have G9 := Lib.hid (G10.out.tr hg9)
                clear hg9
                go_wp2
                exact HR.out _ G9.out
              | true =>
                by_cases h0l : 0 < l.length
                · have t3 : decide ((0 : Int) < (l.length : Int)) = true := by rw [decide_eq_true_eq]; omega
                  obtain ⟨b, o, rfl, hS, hc⟩ := k4 h0l
                  have hPA : PA = [wantS l] := SF.out h0l (by have := HINS.out; rw [List.all_eq_true] at this; exact this)
                  have NA1 : Hid (j = 1) := by show _ = _; rw [NA.out, ← LP.out, hPA]; rfl
                  subst hPA
                  obtain rfl := NA1.out
                  have hj5 : 0 < rows5.length := by have := NA.out; omega
                  obtain ⟨_, A', c', hv, p1, p2, -, p4⟩ := RA.out
                  injection hv with e1 e2 e3
                  clear e2
                  subst e1 e3
                  obtain ⟨b5, o5, rfl, hS5, hc5⟩ := p4 (by omega)
                  have hw0 : rows5[0].l = wantS l := by
                    have h1 : (rows5.map SRow.l)[0]? = some (wantS l) := by rw [HR5.out]; rfl
                    rw [List.getElem?_map, List.getElem?_eq_getElem hj5, Option.map_some, Option.some.injEq] at h1
                    exact h1
                  have HA7 := EA.out _ (List.getElem_mem hj5)
                  rw [hw0] at HA7
                  obtain ⟨xl, A7, c7, hv7, m1, m2, m3, m4⟩ := EA.out _ (List.getElem_mem hj5)
                  rw [hw0] at hv7
                  have C5 : Hid (∀ W, Grow wr W → W.cell? ⟨b5, o5, none⟩ = some (.slice A7 (wantS l).length c7)) := fun W h => by
                    refine (h.cell (p := ⟨b5, o5, none⟩) (Nat.lt_of_lt_of_le hS5 HGW.out.size)).trans ((hc5 0 _ ?_))
                    rw [List.getElem?_map, List.getElem?_eq_getElem hj5, Option.map_some, hv7]
                  rw [hv7] at HA7
                  have HA := Lib.hid HA7
                  clear p4 hc5 hv7 xl m1 m2 m3 m4 HA7 RA EA hw0 p1 p2
                  generalize wr = wq at *
                  go_wp2
                  go_loopw [19, 18] (fun i s wr => ∃ (k : Nat), k ≤ l.length ∧ i = .int .i64 k ∧ wr.ownsRow wq.heap.size 28 6 s (wantS (l.take k)).length (Spots (wantS (l.take k))) ∧ Hid (Grow wq wr)) (fun i _ _ => l.length - (intOf i).toNat)
                  case atStart => exact ⟨0, Nat.zero_le _, rfl, World.ownsRow_nil _ _ _ _, Grow.refl _⟩
                  case round =>
                    obtain ⟨k, hk, rfl, hown, hg⟩ := hrel
                    obtain ⟨ap, cp, rfl⟩ := own_slice hown
                    by_cases hlt : k < l.length
                    · have e0 := fun W (h : Grow wq W) => flat_cells Pt.cells_len (G10.out.tr h) hS hc hlt
                      obtain ⟨w1', w2'⟩ := want_step l k hlt
                      have WL := Lib.hid (wantS_len l k hk)
                      have HO := Lib.hid hown
                      have SL := Lib.hid fun W (R : Ending → World → Prop) hR => spotL_any (l[k]'hlt) W (R := R) hR
                      have E0 : Hid (∀ W, Grow wq W → W.cell? ⟨b, o + k * 2, none⟩ = some (.int .i64 (l[k]'hlt).x) ∧ W.cell? ⟨b, o + k * 2 + 1, none⟩ = some (.int .i64 (l[k]'hlt).y)) := fun W h => ⟨e0 W h 0 _ rfl, e0 W h 1 _ rfl⟩
                      clear hown
                      generalize wr = wr0 at *
                      by_cases hk0 : k = 0
                      · have W1 := Lib.hid (w1' (.inl hk0))
                        have hq : ((k : Int) == 0) = true := by rw [beq_iff_eq]; omega
                        clear w1' w2' e0 hk0
                        generalize l[k]'hlt = x at *
                        obtain ⟨x1, x2⟩ := x
                        unfold Pt.cells at SL
                        dsimp only at E0 SL
                        go_wp2_with fail
                        refine wp_region_lexT (Grow wq) (hg.out.dr) 12 [0, 1, 2, 3, 4, 5, 6, 7, 8, 9, 10, 11] (by kernel_rfl) (by kernel_rfl) (by intro c a d v w h; cases d <;> exact h) ?_
                        iterate 3 (apply lext_take; exact rfl; exact rfl; (intro W hW; (try clear hW); go_simp; with_reducible rfl); try simp only [Act.put, List.setIfInBounds_toArray, List.set_cons_zero, List.set_cons_succ])
                        iterate 9 (apply lext_skip; exact rfl; exact rfl; try simp only [Act.put, List.setIfInBounds_toArray, List.set_cons_zero, List.set_cons_succ])
                        refine lext_nil ?_
                        simp only [List.drop_succ_cons, List.drop_zero]
                        have HO := Lib.hid (own_grow HO.out (Grow.refl _).dr)
                        have hg := Lib.hid hg.out.dr
                        generalize wr0.drew = wr1 at *
                        obtain ⟨y0, y1⟩ := E0.out wr1 hg.out
                        go_wp2_with fail
                        go_at_call 38
                        refine SL.out _ _ ?_
                        intro w17 hg17
                        have hg := Lib.hid (hg.out.tr hg17)
                        have HO := Lib.hid (own_grow HO.out hg17)
                        clear hg17 SL E0 y0 y1
                        go_upto_region 29 with (at_builtin; refine wpList_newAt rfl _ _ rfl el_spot HO.out rfl 1 _ rfl _ rfl (by decide) rfl (by simp [Value.oneCell']) (by have := WL.out; omega) hg.out ⟨Nat.le_refl _, hg.out.size⟩ ?_; intro v9 w9 hO9 hg9 hgr9 hb9)
                        have HO9 := Lib.hid (own_eq hO9 (show (wantS (l.take k)).length + 1 = (wantS (l.take (k + 1))).length by rw [W1.out, List.length_append]; rfl) (show Spots (wantS (l.take k)) ++ _ = Spots (wantS (l.take (k + 1))) by rw [W1.out, Spots_app]; rfl))
                        have HG9 := Lib.hid hg9
                        clear hO9 hg9 hgr9 hb9 HO
                        go_wp2
                        go_roundw
                        case rel => exact ⟨k + 1, by omega, by go_num, HO9.out, HG9.out⟩
                        case measure => simp [intOf]; omega
                      · obtain ⟨k1', hk1⟩ : ∃ k1', k1' + 1 = k := ⟨k - 1, by omega⟩
                        have hk1l : k1' < l.length := by omega
                        have hkk : k - 1 = k1' := by omega
                        have f0 := fun W (h : Grow wq W) => flat_cells Pt.cells_len (G10.out.tr h) hS hc hk1l
                        have E1 : Hid (∀ W, Grow wq W → W.cell? ⟨b, o + k1' * 2, none⟩ = some (.int .i64 (l[k1']'hk1l).x) ∧ W.cell? ⟨b, o + k1' * 2 + 1, none⟩ = some (.int .i64 (l[k1']'hk1l).y)) := fun W h => ⟨f0 W h 0 _ rfl, f0 W h 1 _ rfl⟩
                        have V1 : Hid (l[k]'hlt ≠ l[k1']'hk1l → wantS (l.take (k + 1)) = wantS (l.take k) ++ [wholeSpot (l[k]'hlt)]) := fun hne => w1' (.inr fun h => by simpa only [hkk] using hne)
                        have V2 : Hid (l[k]'hlt = l[k1']'hk1l → wantS (l.take (k + 1)) = wantS (l.take k)) := fun he => w2' (by omega) (by omega) (by simpa only [hkk] using he)
                        have hq : ((k : Int) == 0) = false := by rw [beq_eq_false_iff_ne]; omega
                        have zE : IntKind.i64.wrap ((k : Int) - 1) = (k1' : Int) := by rw [show (k : Int) - 1 = (k1' : Int) by omega]; exact IntWalk.i64_in _ (by omega)
                        clear w1' w2' e0 f0 hk1 hkk
                        generalize l[k]'hlt = x at *
                        generalize l[k1']'hk1l = y at *
                        obtain ⟨x1, x2⟩ := x
                        obtain ⟨y1, y2⟩ := y
                        unfold Pt.cells at SL
                        dsimp only at E0 E1 SL
                        by_cases h1 : x1 = y1
                        · by_cases h2 : x2 = y2
                          · subst h1 h2
                            have W1 := Lib.hid (V2.out rfl)
                            clear V1 V2
                            have t4 : (x1 != x1) = false := by simp
                            have t5 : (x2 != x2) = false := by simp
                            go_wp2_with fail
                            refine wp_region_lexT (Grow wq) (hg.out.dr) 12 [0, 1, 2, 3, 4, 5, 6, 7, 8, 9, 10, 11] (by kernel_rfl) (by kernel_rfl) (by intro c a d v w h; cases d <;> exact h) ?_
                            iterate 12 (apply lext_take; exact rfl; exact rfl; (intro W hW; obtain ⟨x0', x1'⟩ := E0.out W hW; obtain ⟨y0', y1'⟩ := E1.out W hW; (try clear hW); go_simp; with_reducible rfl); try simp only [Act.put, List.setIfInBounds_toArray, List.set_cons_zero, List.set_cons_succ])
                            refine lext_nil ?_
                            simp only [List.drop_succ_cons, List.drop_zero]
                            have HO := Lib.hid (own_grow HO.out (Grow.refl _).dr)
                            have hg := Lib.hid hg.out.dr
                            generalize wr0.drew = wr1 at *
                            clear E1 zE
                            go_wp2
                            go_roundw
                            case rel => exact ⟨k + 1, by omega, by go_num, by rw [W1.out]; exact HO.out, hg.out⟩
                            case measure => simp [intOf]; omega
                          · subst h1
                            have W1 := Lib.hid (V1.out (by intro e; injection e with _ e; exact h2 e))
                            have t4 : (x2 != y2) = true := by rw [bne_iff_ne]; exact h2
                            have t5 : (x2 == y2) = false := by rw [beq_eq_false_iff_ne]; exact h2
                            clear V1 V2
                            go_wp2_with fail
                            refine wp_region_lexT (Grow wq) (hg.out.dr) 12 [0, 1, 2, 3, 4, 5, 6, 7, 8, 9, 10, 11] (by kernel_rfl) (by kernel_rfl) (by intro c a d v w h; cases d <;> exact h) ?_
                            iterate 12 (apply lext_take; exact rfl; exact rfl; (intro W hW; obtain ⟨x0', x1'⟩ := E0.out W hW; obtain ⟨y0', y1'⟩ := E1.out W hW; (try clear hW); go_simp; with_reducible rfl); try simp only [Act.put, List.setIfInBounds_toArray, List.set_cons_zero, List.set_cons_succ])
                            refine lext_nil ?_
                            simp only [List.drop_succ_cons, List.drop_zero]
                            have HO := Lib.hid (own_grow HO.out (Grow.refl _).dr)
                            have hg := Lib.hid hg.out.dr
                            generalize wr0.drew = wr1 at *
                            clear E1 zE
                            obtain ⟨y0, y1⟩ := E0.out wr1 hg.out
                            go_wp2_with fail
                            go_at_call 38
                            refine SL.out _ _ ?_
                            intro w17 hg17
                            have hg := Lib.hid (hg.out.tr hg17)
                            have HO := Lib.hid (own_grow HO.out hg17)
                            clear hg17 SL E0 y0 y1
                            go_upto_region 29 with (at_builtin; refine wpList_newAt rfl _ _ rfl el_spot HO.out rfl 1 _ rfl _ rfl (by decide) rfl (by simp [Value.oneCell']) (by have := WL.out; omega) hg.out ⟨Nat.le_refl _, hg.out.size⟩ ?_; intro v9 w9 hO9 hg9 hgr9 hb9)
                            have HO9 := Lib.hid (own_eq hO9 (show (wantS (l.take k)).length + 1 = (wantS (l.take (k + 1))).length by rw [W1.out, List.length_append]; rfl) (show Spots (wantS (l.take k)) ++ _ = Spots (wantS (l.take (k + 1))) by rw [W1.out, Spots_app]; rfl))
                            have HG9 := Lib.hid hg9
                            clear hO9 hg9 hgr9 hb9 HO
                            go_wp2
                            go_roundw
                            case rel => exact ⟨k + 1, by omega, by go_num, HO9.out, HG9.out⟩
                            case measure => simp [intOf]; omega
                        · have W1 := Lib.hid (V1.out (by intro e; injection e with e _; exact h1 e))
                          have t4 : (x1 != y1) = true := by rw [bne_iff_ne]; exact h1
                          have t5 : (x1 == y1) = false := by rw [beq_eq_false_iff_ne]; exact h1
                          clear V1 V2
                          go_wp2_with fail
                          refine wp_region_lexT (Grow wq) (hg.out.dr) 12 [0, 1, 2, 3, 4, 5, 6, 7, 8, 9, 10, 11] (by kernel_rfl) (by kernel_rfl) (by intro c a d v w h; cases d <;> exact h) ?_
                          iterate 12 (apply lext_take; exact rfl; exact rfl; (intro W hW; obtain ⟨x0', x1'⟩ := E0.out W hW; obtain ⟨y0', y1'⟩ := E1.out W hW; (try clear hW); go_simp; with_reducible rfl); try simp only [Act.put, List.setIfInBounds_toArray, List.set_cons_zero, List.set_cons_succ])
                          refine lext_nil ?_
                          simp only [List.drop_succ_cons, List.drop_zero]
                          have HO := Lib.hid (own_grow HO.out (Grow.refl _).dr)
                          have hg := Lib.hid hg.out.dr
                          generalize wr0.drew = wr1 at *
                          clear E1 zE
                          obtain ⟨y0, y1⟩ := E0.out wr1 hg.out
                          go_wp2_with fail
                          go_at_call 38
                          refine SL.out _ _ ?_
                          intro w17 hg17
                          have hg := Lib.hid (hg.out.tr hg17)
                          have HO := Lib.hid (own_grow HO.out hg17)
                          clear hg17 SL E0 y0 y1
                          go_upto_region 29 with (at_builtin; refine wpList_newAt rfl _ _ rfl el_spot HO.out rfl 1 _ rfl _ rfl (by decide) rfl (by simp [Value.oneCell']) (by have := WL.out; omega) hg.out ⟨Nat.le_refl _, hg.out.size⟩ ?_; intro v9 w9 hO9 hg9 hgr9 hb9)
                          have HO9 := Lib.hid (own_eq hO9 (show (wantS (l.take k)).length + 1 = (wantS (l.take (k + 1))).length by rw [W1.out, List.length_append]; rfl) (show Spots (wantS (l.take k)) ++ _ = Spots (wantS (l.take (k + 1))) by rw [W1.out, Spots_app]; rfl))
                          have HG9 := Lib.hid hg9
                          clear hO9 hg9 hgr9 hb9 HO
                          go_wp2
                          go_roundw
                          case rel => exact ⟨k + 1, by omega, by go_num, HO9.out, HG9.out⟩
                          case measure => simp [intOf]; omega
                    · obtain rfl : k = l.length := by omega
                      rw [List.take_length] at hown ⊢
                      have RB := Lib.hid (Rd.own_lt hown)
                      have LSM := Lib.hid fun W (h : Grow wr W) (R : Ending → World → Prop) hR => lsame_any _ _ (wantS l) _ _ W (HA.out.gr (by decide) (hg.out.tr h)) (RB.out.gr (by decide) h) (R := R) hR
                      have z5 := C5.out wr hg.out
                      have G11 := Lib.hid (G10.out.tr hg.out)
                      have GR : Hid (Grow wr wr) := Grow.refl _
                      clear hown
                      go_wp2_with fail
                      go_at_call 37
                      refine LSM.out _ GR.out _ ?_
                      intro w12 hg12
                      have G12 := Lib.hid (G11.out.tr hg12)
                      clear hg12 LSM z5
                      go_wp2_with fail
                      go_at_call 15
                      refine live24_any _ ?_
                      intro w9 hg9
                      have G9 := Lib.hid (G12.out.tr hg9)
                      clear hg9
                      go_wp2
                      exact HR.out _ G9.out
                · have t3 : decide ((0 : Int) < (l.length : Int)) = false := by rw [decide_eq_false_iff_not]; omega
                  clear k4
                  go_wp2_with fail
                  go_at_call 15
                  refine live24_any _ ?_
                  intro w9 hg9
                  have G9 := Lib.hid (G10.out.tr hg9)
                  clear hg9
                  go_wp2
                  exact HR.out _ G9.out
    · have t2 : (lineE l lo hi != 0) = true := by rw [bne_iff_ne]; exact he
      generalize lineE l lo hi = e at *
      clear he k4
      go_enter Try.func10, Try.ntmps10
      go_wp2_with fail
      go_at_call 19
      refine RE.out _ ?_
      intro w1 hg1
      have G1 := Lib.hid hg1
      clear hg1
      go_wp2_with fail
      go_at_call 15
      refine live24_any _ ?_
      intro w9 hg9
      have G9 := Lib.hid (G1.out.tr hg9)
      clear hg9
      go_wp2
      exact HR.out _ G9.out
end Go.Proofs.Ytjcgkhcbdbbdkaa
