/-
  The reference's rings, third part: half.
-/
import Derived.Test.YtjcgkhcbdbbdkaaChecked
import Derived.Test.YtjcgkhcbdbbdkaaRR2
import Derived.Laws.OwnMore
namespace Go.Proofs.Ytjcgkhcbdbbdkaa
open Go.RowKit B

theorem PV.mid {l : List PV} {w wr : World} {b o : Nat} (hw : Grow w wr) (hb : b < w.heap.size) (hc : ∀ j u, (PVs l)[j]? = some u → w.cell? ⟨b, o + j, none⟩ = some u) {i : Nat} (hi : i < l.length) :
    wr.cell? ⟨b, o + i * 8, none⟩ = some (.bool l[i].x.nu.p) ∧ wr.cell? ⟨b, o + i * 8 + 1, none⟩ = some (.slice l[i].x.nu.A l[i].x.nu.n l[i].x.nu.c) ∧ wr.cell? ⟨b, o + i * 8 + 2, none⟩ = some (.bool l[i].x.de.p) ∧ wr.cell? ⟨b, o + i * 8 + 3, none⟩ = some (.slice l[i].x.de.A l[i].x.de.n l[i].x.de.c) ∧
    wr.cell? ⟨b, o + i * 8 + 4, none⟩ = some (.bool l[i].y.nu.p) ∧ wr.cell? ⟨b, o + i * 8 + 5, none⟩ = some (.slice l[i].y.nu.A l[i].y.nu.n l[i].y.nu.c) ∧ wr.cell? ⟨b, o + i * 8 + 6, none⟩ = some (.bool l[i].y.de.p) ∧ wr.cell? ⟨b, o + i * 8 + 7, none⟩ = some (.slice l[i].y.de.A l[i].y.de.n l[i].y.de.c) := by
  have e := flat_cells PV.cells_len hw hb hc hi
  exact ⟨e 0 _ rfl, e 1 _ rfl, e 2 _ rfl, e 3 _ rfl, e 4 _ rfl, e 5 _ rfl, e 6 _ rfl, e 7 _ rfl⟩

theorem fold_cells (p : PV) : (List.foldl (fun (cs : Array Value) (x : Value × Nat) => cs.setIfInBounds x.snd x.fst) #[Value.bool false, .slice none 0 0, .bool false, .slice none 0 0, .bool false, .slice none 0 0, .bool false, .slice none 0 0] p.cells.zipIdx).toList = p.cells := rfl
theorem own_form {w : World} {base size n : Nat} {e : TypeId} {v : Value} {xs : List Value} (h : w.ownsRow base e size v n xs) (hn : 0 < n) : ∃ g cap, v = .slice (some ⟨g, 0, none⟩) n cap := by
  obtain ⟨A, c, hv⟩ := own_slice h
  rcases h.2 with ⟨h', _⟩ | ⟨g, cap, cur, h', _⟩
  · rw [hv] at h'
    injection h' with _ h2 _
    omega
  · exact ⟨g, cap, h'⟩
theorem turn_step {ad : List PV} {j : Nat} (hj : j < ad.length) : ((ad.take j).map PV.turn ++ ad.drop j).length = ad.length ∧ ((ad.take j).map PV.turn ++ ad.drop j)[j]? = some ad[j] ∧ ((ad.take j).map PV.turn ++ ad.drop j).set j ad[j].turn = (ad.take (j + 1)).map PV.turn ++ ad.drop (j + 1) := by
  have hl : ((ad.take j).map PV.turn).length = j := by rw [List.length_map, List.length_take]; omega
  refine ⟨by rw [List.length_append, hl, List.length_drop]; omega, ?_, ?_⟩
  · rw [List.getElem?_append_right (by omega), hl, Nat.sub_self, List.getElem?_drop, Nat.add_zero, List.getElem?_eq_getElem hj]
  · rw [List.set_append_right _ _ (by omega), hl, Nat.sub_self, List.drop_eq_getElem_cons hj, List.set_cons_zero, List.take_succ_eq_append_getElem hj, List.map_append, List.append_assoc]
    rfl
/-- what one edge leaves, X and Y not in turn -/
def half1R (c : Int) (ab : Bool) (p q : PtQ) : List PtQ := (if inQ p.x c ab = true then [p] else []) ++ (if inQ p.x c ab ≠ inQ q.x c ab then [crossQ p q c] else [])
theorem half1Q_up (c : Int) (ab : Bool) (p q : PtQ) : half1Q c true ab p q = (half1R c ab p.turn q.turn).map PtQ.turn := rfl
theorem half1Q_no (c : Int) (ab : Bool) (p q : PtQ) : half1Q c false ab p q = half1R c ab p q := rfl

set_option maxRecDepth 100000 in
set_option maxHeartbeats 16000000 in
theorem half_any (l : List PV) (c : Int) (up ab : Bool) (kk : Nat) (T : Nat → Prop) (v : Value) (S : Nat → Prop) (w : World) (hb : Rd w S 8 v l.length (PVs l)) (hl : l.length ≤ 1000) (hv : ∀ p ∈ l, p.rd w T kk) (hkk : kk ≤ 1500) (hc : I64 c)
    {R : Ending → World → Prop}
    (hR : ∀ (r : Value) (m : List PV) (w' : World), w'.ownsRow w.heap.size 37 8 r m.length (PVs m) → m.map PV.q = halfQ c up ab (l.map PV.q) → (∀ p ∈ m, p.rd w' (fun _ => True) (6 * kk + 8)) → Grow w w' → R (.returned r) w') :
    Calls Try.prog 52 #[v, .int .i64 c, .bool up, .bool ab] w R := by
  have HR := Lib.hid hR
  clear hR
  have hb := hb.lt (by decide)
  obtain ⟨_, A, cp, rfl, k1, k2, k3, k4⟩ := hb
  unfold maxLen at k2
  have HV : Hid (∀ p ∈ l, p.rd w (fun b => b < w.heap.size) kk) := fun p hp => (hv p hp).both.into fun b hb => hb.2
  have HK := Lib.hid (And.intro hkk hc)
  clear hv hkk hc k3
  go_enter Try.func52, Try.ntmps52
  go_wp2
  go_loopw [10, 9] (fun i ov wr => ∃ (k : Nat) (out : List PV), k ≤ l.length ∧ i = .int .i64 k ∧ Hid (out.map PV.q = cycTo (half1Q c up ab) (l.map PV.q) k ∧ out.length ≤ 2 * k) ∧ Hid (HSt w ov (.slice none 0 0) out [] (6 * kk + 8) wr)) (fun i _ _ => l.length - (intOf i).toNat)
  case atStart => exact ⟨0, [], Nat.zero_le _, rfl, ⟨rfl, Nat.le_refl _⟩, ⟨Grow.refl _, World.ownsRow_nil _ _ _ _, World.ownsRow_nil _ _ _ _, fun k hk => by simp [Value.ownBlock] at hk, fun p hp => by simp at hp, fun p hp => by simp at hp⟩⟩
  case round =>
    obtain ⟨k, out, hk, rfl, hct, hst⟩ := hrel
    obtain ⟨ao, co, rfl⟩ := own_slice hst.out.oo
    by_cases hlt : k < l.length
    · obtain ⟨bl, o, rfl, hS, hc⟩ := k4 (by omega)
      have hm : (k + 1) % l.length < l.length := Nat.mod_lt _ (by omega)
      have E0 := Lib.hid fun W (h : Grow w W) => PV.mid h hS hc hlt
      have E1 := Lib.hid fun W (h : Grow w W) => PV.mid h hS hc hm
      have CS : Hid (cycTo (half1Q c up ab) (l.map PV.q) (k + 1) = cycTo (half1Q c up ab) (l.map PV.q) k ++ half1Q c up ab (l[k]'hlt).q (l[(k + 1) % l.length]'hm).q) := by
        show _ = _
        have := cycTo_succ (half1Q c up ab) (l.map PV.q) k (by rw [List.length_map]; exact hlt) (by rw [List.length_map]; exact hm)
        simpa using this
      have RP := Lib.hid (HV.out _ (List.getElem_mem hlt))
      have RQ' := Lib.hid (HV.out _ (List.getElem_mem hm))
      have z4 : IntKind.i64.wrap ((k : Int) + 1) = (k : Int) + 1 := IntWalk.i64_in _ (by omega)
      have z5 : ((k : Int) + 1).tmod (l.length : Int) = (((k + 1) % l.length : Nat) : Int) := by
        rw [Int.tmod_eq_emod_of_nonneg (by omega)]; exact (Int.natCast_emod (k + 1) l.length).symm
      have z6 : ((k : Int) + 1) % (l.length : Int) = (((k + 1) % l.length : Nat) : Int) := (Int.natCast_emod (k + 1) l.length).symm
      have z1 : ((l.length : Int) == 0) = false := by rw [beq_eq_false_iff_ne]; omega
      have z2 : ¬ (l.length : Int) = 0 := by omega
      have z3 : ¬ l = [] := by rintro rfl; simp at hlt
      have ZS := Lib.hid (And.intro z4 (And.intro z5 (And.intro z6 (And.intro z1 (And.intro z2 (And.intro z3 hm))))))
      clear z1 z2 z3 z4 z5 z6 k4 hc
      generalize hmm : (k + 1) % l.length = m at *
      generalize l[m] = q at *
      generalize l[k] = p at *
      have ST := Lib.hid hst.out
      have STR := Lib.hid hst.out
      have CT := Lib.hid hct.out
      have HLT := Lib.hid hlt
      clear hst hct hmm hm
      go_upto_region 5 with fail
      refine wp_region_freeS ⟨12, some 11, 37, zeroPV.cells.toArray⟩ ⟨13, some 12, 37, zeroPV.cells.toArray⟩ 15 [0, 1, 2, 3, 4, 5, 6, 7, 8, 9, 10, 11] [14] (by kernel_rfl) (by kernel_rfl) (by decide) ⟨_, rfl, rfl, rfl, fun a W K h => by go_simp; exact h⟩ ⟨_, rfl, rfl, rfl, fun a W K h => by go_simp; exact h⟩ (by intro c a d v w h; cases d <;> exact h) u11 u12 rfl rfl ?_
      have GD : Hid (Grow wr wr.drew) := (Grow.refl _).dr
      generalize wr.drew = wb at *
      iterate 12
        apply frs_take; exact rfl; (simp); (simp); (intro x1 x2; exact rfl)
        · intro x1 x2 W' hW
          obtain ⟨y0, y1, y2, y3, y4, y5, y6, y7⟩ := E0.out W' (ST.out.gr.tr (GD.out.tr hW))
          obtain ⟨v0, v1, v2, v3, v4, v5, v6, v7⟩ := E1.out W' (ST.out.gr.tr (GD.out.tr hW))
          obtain ⟨q1, q2, q3, q4, q5, q6, q7⟩ := ZS.out
          clear hW
          simp only [FA.put2, Act.put, List.setIfInBounds_toArray, List.set_cons_zero, List.set_cons_succ]
          go_simp
          with_reducible rfl
        simp only [Act.put, List.setIfInBounds_toArray, List.set_cons_zero, List.set_cons_succ]
      refine frs_nil ?_
      intro b1 b2 V hV hJ hne hc1 hc2
      have FP : Hid (V.heap[b1]? = some (.cells zeroPV.cells.toArray 37 (0, 0))) := hc1.2
      have FQ : Hid (V.heap[b2]? = some (.cells zeroPV.cells.toArray 37 (0, 0))) := hc2.2
      have NE : Hid (b1 ≠ b2 ∧ b2 ≠ b1) := ⟨hne, fun e => hne e.symm⟩
      have L1 : wb.heap.size ≤ b1 := hc1.1
      have L2 : wb.heap.size ≤ b2 := hc2.1
      have G1 : Grow wb (V.setRow b1 p.cells.toArray) := Grow.row hV L1 _
      have G2 : Grow wb ((V.setRow b1 p.cells.toArray).setRow b2 q.cells.toArray) := G1.row L2 _
      have LW : Hid (wr.heap.size ≤ b1 ∧ wr.heap.size ≤ b2) := ⟨Nat.le_trans GD.out.size L1, Nat.le_trans GD.out.size L2⟩
      have H2 : (V.setRow b1 p.cells.toArray).heap[b2]? = some (.cells zeroPV.cells.toArray 37 (0, 0)) := (setRow_other _ _ _ _ NE.out.2).trans FQ.out
      refine ⟨Grow wb, fun _ h => h, hV, ?_⟩
      clear hV hne hc1 hc2 hJ
      unfold ptrTo FA.put2
      simp only [Act.put, List.setIfInBounds_toArray, List.set_cons_zero, List.set_cons_succ, List.drop_succ_cons, List.drop_zero]
      apply lext_turn; exact rfl; exact rfl; exact rfl; intro K hK
      refine wp_store_row 37 _ _ rfl b1 p.cells.toArray rfl rfl 37 _ FP.out (by kernel_rfl) rfl (PV.one _) ?_
      refine hK.out _ _ G1 ?_
      clear hK
      simp only [Act.put]
      refine lext_nil ?_
      go_upto_region 6 with (refine wpList_store_row rfl 37 _ _ rfl b2 q.cells.toArray rfl rfl 37 _ H2 (by kernel_rfl) rfl (PV.one _) ?_)
      have FQn := Lib.hid (setRow_heap _ b2 _ q.cells.toArray _ _ H2)
      have FP := Lib.hid ((setRow_other _ b2 b1 q.cells.toArray NE.out.1).trans (setRow_heap _ b1 _ p.cells.toArray _ _ FP.out))
      have FQ := Lib.hid FQn.out
      have ST := Lib.hid (ST.out.tr (GD.out.tr G2))
      have GR := Lib.hid (GD.out.tr G2)
      clear FQn H2 G1 G2 L1 L2 GD
      generalize (V.setRow b1 p.cells.toArray).setRow b2 q.cells.toArray = w5 at *
      -- what is gathered for one edge joins the ring, as it is
      cases up with
      | false =>
        go_upto_region 9 with fail
        have lp : (p).cells.length = 8 := rfl
        have IP := Lib.hid fun W (h : Grow w W) (R : Ending → World → Prop) hR => in25_any (p) c ab kk _ W ((RP.out).gr h) (by have := HK.out.1; omega) HK.out.2 (R := R) hR
        have IQ := Lib.hid fun W (h : Grow w W) (R : Ending → World → Prop) hR => in25_any (q) c ab kk _ W ((RQ'.out).gr h) (by have := HK.out.1; omega) HK.out.2 (R := R) hR
        obtain ⟨a1, ha1⟩ : ∃ b, inQ (p).q.x c ab = b := ⟨_, rfl⟩
        obtain ⟨a2, ha2⟩ : ∃ b, inQ (q).q.x c ab = b := ⟨_, rfl⟩
        rw [ha1] at IP
        rw [ha2] at IQ
        have HA1 := Lib.hid ha1
        have HA2 := Lib.hid ha2
        clear ha1 ha2
        go_wp2_with (refine wpList_load_row rfl 37 _ rfl b1 rfl 37 _ _ _ FP.out Try.underlying37 rfl (by kernel_rfl) ?_)
        refine IP.out _ ST.out.gr _ ?_
        intro w6 hg6
        have ST := Lib.hid (ST.out.tr hg6)
        have FP := Lib.hid (grow_blk hg6 FP.out)
        have FQ := Lib.hid (grow_blk hg6 FQ.out)
        clear hg6
        cases a1 with
        | true =>
          go_upto_region 11 with (first | (refine wpList_load_row rfl 37 _ rfl b1 rfl 37 _ _ _ FP.out Try.underlying37 rfl (by kernel_rfl) ?_) | (at_builtin; refine wpList_newAt rfl _ _ rfl el_pl (own_grow ST.out.oa (Grow.refl _)) rfl 1 _ rfl _ rfl (by decide) rfl (by simp [PV.cells, Value.oneCell']) (by decide) ST.out.gr ⟨Nat.le_refl _, ST.out.gr.size⟩ ?_; intro v7 w7 hO7 hg7 hgr7 hb7))
          simp only [fold_cells] at hO7
          have FP := Lib.hid ((hgr7.block b1 (lt_of_block FP.out) (by simp [Value.ownBlock])).trans FP.out)
          have FQ := Lib.hid ((hgr7.block b2 (lt_of_block FQ.out) (by simp [Value.ownBlock])).trans FQ.out)
          have ST := Lib.hid (ST.out.padd (add' := [p]) hgr7 (own_eq hO7 rfl (by simp [PVs])) (hb7.elim .inl fun h => .inr ⟨_, h, Nat.le_succ _⟩) (fun x hx => by rw [List.mem_singleton.1 hx]; exact (((RP.out).gr ST.out.gr).into fun b hb => ST.out.offlow hb).up (by omega)))
          clear hO7 hg7 hgr7 hb7
          have GN := Lib.hid ((Grow.refl _ : Grow w7 w7).dr)
          have ST := Lib.hid (ST.out.tr GN.out)
          have FP := Lib.hid (grow_blk GN.out FP.out)
          have FQ := Lib.hid (grow_blk GN.out FQ.out)
          refine wp_region_lexT (Grow (w7).drew) ((Grow.refl _)) 7 [0, 1, 2, 4, 5, 6, 3] (by kernel_rfl) (by kernel_rfl) (by intro c a d v w h; cases d <;> exact h) ?_
          apply lext_take; exact rfl; exact rfl; (intro W hW; exact exec_load_row 37 _ rfl b1 rfl 37 _ _ _ (grow_blk hW FP.out) rfl Try.underlying37 (by kernel_rfl))
          try simp only [Act.put, List.setIfInBounds_toArray, List.set_cons_zero, List.set_cons_succ]
          iterate 2 (apply lext_take; exact rfl; exact rfl; (intro W hW; (try clear hW); go_simp; with_reducible rfl); try simp only [Act.put, List.setIfInBounds_toArray, List.set_cons_zero, List.set_cons_succ])
          apply lext_take; exact rfl; exact rfl; (intro W hW; exact exec_load_row 37 _ rfl b2 rfl 37 _ _ _ (grow_blk hW FQ.out) rfl Try.underlying37 (by kernel_rfl))
          try simp only [Act.put, List.setIfInBounds_toArray, List.set_cons_zero, List.set_cons_succ]
          iterate 2 (apply lext_take; exact rfl; exact rfl; (intro W hW; (try clear hW); go_simp; with_reducible rfl); try simp only [Act.put, List.setIfInBounds_toArray, List.set_cons_zero, List.set_cons_succ])
          generalize (w7).drew = w8 at *
          clear GN
          apply lext_turn; exact rfl; exact rfl; exact rfl; intro K hK; go_simp; refine IP.out _ ST.out.gr _ ?_; intro w9 hg9
          refine hK.out _ _ hg9 ?_
          have ST := Lib.hid (ST.out.tr hg9)
          have FP := Lib.hid (grow_blk hg9 FP.out)
          have FQ := Lib.hid (grow_blk hg9 FQ.out)
          clear hK hg9
          try simp only [Act.put, List.setIfInBounds_toArray, List.set_cons_zero, List.set_cons_succ]
          refine lext_nil ?_
          simp only [List.drop_succ_cons, List.drop_zero]
          go_wp2_with fail
          refine IQ.out _ ST.out.gr _ ?_
          intro wa hga
          have ST := Lib.hid (ST.out.tr hga)
          have FP := Lib.hid (grow_blk hga FP.out)
          have FQ := Lib.hid (grow_blk hga FQ.out)
          clear hga IP IQ
          cases a2 with
          | true =>
            go_upto_region 13 with fail
            have HQ1 : Hid (half1R c ab (p).q (q).q = ([p]).map PV.q) := by
              show _ = _
              unfold half1R
              rw [HA1.out, HA2.out]
              simp
            clear HA1 HA2 FP FQ
            obtain ⟨ad, had⟩ : ∃ ad : List PV, ad = ([p]) := ⟨_, rfl⟩
            have AL : Hid (ad.length ≤ 2) := by show _ ≤ _; rw [had]; simp
            rw [← had] at ST HQ1
            clear had
            obtain ⟨aa, ca, hav⟩ := own_slice ST.out.oa
            subst hav
            have RA := Lib.hid (Rd.own_lt ST.out.oa)
            have TO := Lib.hid ST.out.gr
            go_wp2
            go_loopw [14, 9] (fun i ov wr => ∃ (j : Nat) (out' : List PV), j ≤ ad.length ∧ i = .int .i64 j ∧ Hid (out' = out ++ ad.take j) ∧ Hid (HSt w ov (.slice aa ad.length ca) out' ad (6 * kk + 8) wr)) (fun i _ _ => ad.length - (intOf i).toNat)
            case atStart => exact ⟨0, out, Nat.zero_le _, rfl, Lib.hid (by simp), ST.out⟩
            case round =>
              obtain ⟨j, out', hj, rfl, ho', hst'⟩ := hrel
              obtain ⟨ax, cx, rfl⟩ := own_slice hst'.out.oo
              by_cases hjl : j < ad.length
              · have RA := Rd.own_lt hst'.out.oa
                obtain ⟨_, A', c', hv, p1, p2, -, p4⟩ := RA
                injection hv with e1 e2 e3
                clear e2
                subst e1 e3
                unfold maxLen at p2
                obtain ⟨b5, o5, rfl, hS5, hc5⟩ := p4 (by omega)
                obtain ⟨y0, y1, y2, y3, y4, y5, y6, y7⟩ := PV.mid (Grow.refl wr) hS5 hc5 hjl
                have VA := Lib.hid (hst'.out.va _ (List.getElem_mem hjl))
                have OT : Hid (out' ++ [ad[j]'hjl] = out ++ ad.take (j + 1)) := by show _ = _; rw [ho'.out, List.take_succ_eq_append_getElem hjl, List.append_assoc]
                have LO : Hid (out'.length ≤ 5000) := by show _ ≤ _; rw [ho'.out, List.length_append, List.length_take]; have := CT.out.2; have := AL.out; have := HLT.out; omega
                have ST := Lib.hid hst'.out
                clear hst' ho' hc5 p4
                generalize ad[j]'hjl = x at *
                go_upto_region 15 with (at_builtin; refine wpList_newAt rfl _ _ rfl el_pl (own_grow ST.out.oo (Grow.refl _)) rfl 1 _ rfl _ rfl (by decide) rfl (by simp [Value.oneCell']) (by have := LO.out; omega) ST.out.gr ⟨Nat.le_refl _, ST.out.gr.size⟩ ?_; intro v9 w9 hO9 hg9 hgr9 hb9)
                have STF := Lib.hid (ST.out.pout (out' := out' ++ [x]) hgr9 (own_eq hO9 (by simp) (show PVs out' ++ _ = PVs (out' ++ [x]) by rw [PVs_app]; rfl)) (hb9.elim .inl fun h => .inr ⟨_, h, Nat.le_succ _⟩) (fun y hy => by
                  rcases List.mem_append.1 hy with h | h
                  · exact ST.out.vo y h
                  · rw [List.mem_singleton.1 h]; exact VA.out))
                clear hO9 hg9 hgr9 hb9 ST y0 y1 y2 y3 y4 y5 y6 y7
                go_wp2
                go_roundw
                case rel => exact ⟨j + 1, out' ++ [x], by omega, by go_num, OT.out, STF.out⟩
                case measure => simp [intOf]; omega
              · obtain rfl : j = ad.length := by omega
                have OE : Hid (out' = out ++ ad) := by show _ = _; rw [ho'.out, List.take_length]
                have ST := Lib.hid hst'.out
                clear ho' hst'
                have EF : Hid (out'.map PV.q = cycTo (half1Q c false ab) (l.map PV.q) (k + 1) ∧ out'.length ≤ 2 * (k + 1)) := by
                  show _ ∧ _
                  rw [CS.out, ← CT.out.1, OE.out, half1Q_no, HQ1.out, List.map_append, List.length_append]
                  exact ⟨rfl, by have := CT.out.2; have := AL.out; omega⟩
                have STN := Lib.hid ST.out.nadd
                go_wp2
                go_roundw
                case rel => exact ⟨k + 1, out', by have := HLT.out; omega, by go_num, EF.out, STN.out⟩
                case measure => have := HLT.out; simp [intOf]; omega
          | false =>
            have XNE : Hid ((p).q.x ≠ (q).q.x) := fun e => by
              have h1 := HA1.out
              have h2 := HA2.out
              rw [e, h2] at h1
              cases h1
            have CX := Lib.hid fun W (h : Grow w W) (R : Ending → World → Prop) hR => cross25_any (p) (q) c kk _ W ((RP.out).gr h) ((RQ'.out).gr h) HK.out.1 HK.out.2 XNE.out (R := R) hR
            go_wp2_with (first | (refine wpList_load_row rfl 37 _ rfl b1 rfl 37 _ _ _ FP.out Try.underlying37 rfl (by kernel_rfl) ?_) | (refine wpList_load_row rfl 37 _ rfl b2 rfl 37 _ _ _ FQ.out Try.underlying37 rfl (by kernel_rfl) ?_))
            refine CX.out _ ST.out.gr _ ?_
            intro r wc hgc hrq hrr
            have RX := Lib.hid (hrr.into (T := OffB _ _) fun b hb => ST.out.off hb)
            have HQ1 : Hid (half1R c ab (p).q (q).q = ([p] ++ [r]).map PV.q) := by
              show _ = _
              unfold half1R
              rw [HA1.out, HA2.out]
              simp [hrq]
            have lr : r.cells.length = 8 := rfl
            have ST := Lib.hid (ST.out.tr hgc)
            have FP := Lib.hid (grow_blk hgc FP.out)
            have FQ := Lib.hid (grow_blk hgc FQ.out)
            clear hgc hrq hrr CX XNE HA1 HA2
            go_upto_region 13 with (at_builtin; refine wpList_newAt rfl _ _ rfl el_pl (own_grow ST.out.oa (Grow.refl _)) rfl 1 _ rfl _ rfl (by decide) rfl (by simp [PV.cells, Value.oneCell']) (by simp) ST.out.gr ⟨Nat.le_refl _, ST.out.gr.size⟩ ?_; intro v7 wd hO7 hg7 hgr7 hb7)
            simp only [fold_cells] at hO7
            have ST := Lib.hid (ST.out.padd (add' := [p] ++ [r]) hgr7 (own_eq hO7 (by simp) (by simp [PVs])) (hb7.elim .inl fun h => .inr ⟨_, h, Nat.le_succ _⟩) (fun x hx => by
              rcases List.mem_append.1 hx with h | h
              · exact ST.out.va x h
              · rw [List.mem_singleton.1 h]; exact RX.out))
            clear hO7 hg7 hgr7 hb7 FP FQ RX
            obtain ⟨ad, had⟩ : ∃ ad : List PV, ad = ([p] ++ [r]) := ⟨_, rfl⟩
            have AL : Hid (ad.length ≤ 2) := by show _ ≤ _; rw [had]; simp
            rw [← had] at ST HQ1
            clear had
            obtain ⟨aa, ca, hav⟩ := own_slice ST.out.oa
            subst hav
            have RA := Lib.hid (Rd.own_lt ST.out.oa)
            have TO := Lib.hid ST.out.gr
            go_wp2
            go_loopw [14, 9] (fun i ov wr => ∃ (j : Nat) (out' : List PV), j ≤ ad.length ∧ i = .int .i64 j ∧ Hid (out' = out ++ ad.take j) ∧ Hid (HSt w ov (.slice aa ad.length ca) out' ad (6 * kk + 8) wr)) (fun i _ _ => ad.length - (intOf i).toNat)
            case atStart => exact ⟨0, out, Nat.zero_le _, rfl, Lib.hid (by simp), ST.out⟩
            case round =>
              obtain ⟨j, out', hj, rfl, ho', hst'⟩ := hrel
              obtain ⟨ax, cx, rfl⟩ := own_slice hst'.out.oo
              by_cases hjl : j < ad.length
              · have RA := Rd.own_lt hst'.out.oa
                obtain ⟨_, A', c', hv, p1, p2, -, p4⟩ := RA
                injection hv with e1 e2 e3
                clear e2
                subst e1 e3
                unfold maxLen at p2
                obtain ⟨b5, o5, rfl, hS5, hc5⟩ := p4 (by omega)
                obtain ⟨y0, y1, y2, y3, y4, y5, y6, y7⟩ := PV.mid (Grow.refl wr) hS5 hc5 hjl
                have VA := Lib.hid (hst'.out.va _ (List.getElem_mem hjl))
                have OT : Hid (out' ++ [ad[j]'hjl] = out ++ ad.take (j + 1)) := by show _ = _; rw [ho'.out, List.take_succ_eq_append_getElem hjl, List.append_assoc]
                have LO : Hid (out'.length ≤ 5000) := by show _ ≤ _; rw [ho'.out, List.length_append, List.length_take]; have := CT.out.2; have := AL.out; have := HLT.out; omega
                have ST := Lib.hid hst'.out
                clear hst' ho' hc5 p4
                generalize ad[j]'hjl = x at *
                go_upto_region 15 with (at_builtin; refine wpList_newAt rfl _ _ rfl el_pl (own_grow ST.out.oo (Grow.refl _)) rfl 1 _ rfl _ rfl (by decide) rfl (by simp [Value.oneCell']) (by have := LO.out; omega) ST.out.gr ⟨Nat.le_refl _, ST.out.gr.size⟩ ?_; intro v9 w9 hO9 hg9 hgr9 hb9)
                have STF := Lib.hid (ST.out.pout (out' := out' ++ [x]) hgr9 (own_eq hO9 (by simp) (show PVs out' ++ _ = PVs (out' ++ [x]) by rw [PVs_app]; rfl)) (hb9.elim .inl fun h => .inr ⟨_, h, Nat.le_succ _⟩) (fun y hy => by
                  rcases List.mem_append.1 hy with h | h
                  · exact ST.out.vo y h
                  · rw [List.mem_singleton.1 h]; exact VA.out))
                clear hO9 hg9 hgr9 hb9 ST y0 y1 y2 y3 y4 y5 y6 y7
                go_wp2
                go_roundw
                case rel => exact ⟨j + 1, out' ++ [x], by omega, by go_num, OT.out, STF.out⟩
                case measure => simp [intOf]; omega
              · obtain rfl : j = ad.length := by omega
                have OE : Hid (out' = out ++ ad) := by show _ = _; rw [ho'.out, List.take_length]
                have ST := Lib.hid hst'.out
                clear ho' hst'
                have EF : Hid (out'.map PV.q = cycTo (half1Q c false ab) (l.map PV.q) (k + 1) ∧ out'.length ≤ 2 * (k + 1)) := by
                  show _ ∧ _
                  rw [CS.out, ← CT.out.1, OE.out, half1Q_no, HQ1.out, List.map_append, List.length_append]
                  exact ⟨rfl, by have := CT.out.2; have := AL.out; omega⟩
                have STN := Lib.hid ST.out.nadd
                go_wp2
                go_roundw
                case rel => exact ⟨k + 1, out', by have := HLT.out; omega, by go_num, EF.out, STN.out⟩
                case measure => have := HLT.out; simp [intOf]; omega
        | false =>
          go_upto_region 11 with fail
          have GN := Lib.hid ((Grow.refl _ : Grow w6 w6).dr)
          have ST := Lib.hid (ST.out.tr GN.out)
          have FP := Lib.hid (grow_blk GN.out FP.out)
          have FQ := Lib.hid (grow_blk GN.out FQ.out)
          refine wp_region_lexT (Grow (w6).drew) ((Grow.refl _)) 7 [0, 1, 2, 4, 5, 6, 3] (by kernel_rfl) (by kernel_rfl) (by intro c a d v w h; cases d <;> exact h) ?_
          apply lext_take; exact rfl; exact rfl; (intro W hW; exact exec_load_row 37 _ rfl b1 rfl 37 _ _ _ (grow_blk hW FP.out) rfl Try.underlying37 (by kernel_rfl))
          try simp only [Act.put, List.setIfInBounds_toArray, List.set_cons_zero, List.set_cons_succ]
          iterate 2 (apply lext_take; exact rfl; exact rfl; (intro W hW; (try clear hW); go_simp; with_reducible rfl); try simp only [Act.put, List.setIfInBounds_toArray, List.set_cons_zero, List.set_cons_succ])
          apply lext_take; exact rfl; exact rfl; (intro W hW; exact exec_load_row 37 _ rfl b2 rfl 37 _ _ _ (grow_blk hW FQ.out) rfl Try.underlying37 (by kernel_rfl))
          try simp only [Act.put, List.setIfInBounds_toArray, List.set_cons_zero, List.set_cons_succ]
          iterate 2 (apply lext_take; exact rfl; exact rfl; (intro W hW; (try clear hW); go_simp; with_reducible rfl); try simp only [Act.put, List.setIfInBounds_toArray, List.set_cons_zero, List.set_cons_succ])
          generalize (w6).drew = w8 at *
          clear GN
          apply lext_turn; exact rfl; exact rfl; exact rfl; intro K hK; go_simp; refine IP.out _ ST.out.gr _ ?_; intro w9 hg9
          refine hK.out _ _ hg9 ?_
          have ST := Lib.hid (ST.out.tr hg9)
          have FP := Lib.hid (grow_blk hg9 FP.out)
          have FQ := Lib.hid (grow_blk hg9 FQ.out)
          clear hK hg9
          try simp only [Act.put, List.setIfInBounds_toArray, List.set_cons_zero, List.set_cons_succ]
          refine lext_nil ?_
          simp only [List.drop_succ_cons, List.drop_zero]
          go_wp2_with fail
          refine IQ.out _ ST.out.gr _ ?_
          intro wa hga
          have ST := Lib.hid (ST.out.tr hga)
          have FP := Lib.hid (grow_blk hga FP.out)
          have FQ := Lib.hid (grow_blk hga FQ.out)
          clear hga IP IQ
          cases a2 with
          | false =>
            go_upto_region 13 with fail
            have HQ1 : Hid (half1R c ab (p).q (q).q = (([] : List PV)).map PV.q) := by
              show _ = _
              unfold half1R
              rw [HA1.out, HA2.out]
              simp
            clear HA1 HA2 FP FQ
            have STN := Lib.hid ST.out.nadd
            have GX : Hid (Grow w wa) := ST.out.gr
            have EF : Hid (out.map PV.q = cycTo (half1Q c false ab) (l.map PV.q) (k + 1) ∧ out.length ≤ 2 * (k + 1)) := by
              show _ ∧ _
              rw [CS.out, ← CT.out.1, half1Q_no, HQ1.out]
              exact ⟨by simp, by have := CT.out.2; omega⟩
            clear ST HQ1
            go_wp2
            go_loopw [14, 9] (fun i ov wr => i = .int .i64 0 ∧ ov = .slice ao out.length co ∧ Hid (HSt w (.slice ao out.length co) (.slice none 0 0) out [] (6 * kk + 8) wr)) (fun _ _ _ => 0)
            case atStart => exact ⟨rfl, rfl, STN.out⟩
            case round =>
              obtain ⟨rfl, rfl, hst'⟩ := hrel
              go_wp2
              go_roundw
              case rel => exact ⟨k + 1, out, by have := HLT.out; omega, by go_num, EF.out, hst'.out⟩
              case measure => have := HLT.out; simp [intOf]; omega
          | true =>
            have XNE : Hid ((p).q.x ≠ (q).q.x) := fun e => by
              have h1 := HA1.out
              have h2 := HA2.out
              rw [e, h2] at h1
              cases h1
            have CX := Lib.hid fun W (h : Grow w W) (R : Ending → World → Prop) hR => cross25_any (p) (q) c kk _ W ((RP.out).gr h) ((RQ'.out).gr h) HK.out.1 HK.out.2 XNE.out (R := R) hR
            go_wp2_with (first | (refine wpList_load_row rfl 37 _ rfl b1 rfl 37 _ _ _ FP.out Try.underlying37 rfl (by kernel_rfl) ?_) | (refine wpList_load_row rfl 37 _ rfl b2 rfl 37 _ _ _ FQ.out Try.underlying37 rfl (by kernel_rfl) ?_))
            refine CX.out _ ST.out.gr _ ?_
            intro r wc hgc hrq hrr
            have RX := Lib.hid (hrr.into (T := OffB _ _) fun b hb => ST.out.off hb)
            have HQ1 : Hid (half1R c ab (p).q (q).q = (([] : List PV) ++ [r]).map PV.q) := by
              show _ = _
              unfold half1R
              rw [HA1.out, HA2.out]
              simp [hrq]
            have lr : r.cells.length = 8 := rfl
            have ST := Lib.hid (ST.out.tr hgc)
            have FP := Lib.hid (grow_blk hgc FP.out)
            have FQ := Lib.hid (grow_blk hgc FQ.out)
            clear hgc hrq hrr CX XNE HA1 HA2
            go_upto_region 13 with (at_builtin; refine wpList_newAt rfl _ _ rfl el_pl (own_grow ST.out.oa (Grow.refl _)) rfl 1 _ rfl _ rfl (by decide) rfl (by simp [PV.cells, Value.oneCell']) (by simp) ST.out.gr ⟨Nat.le_refl _, ST.out.gr.size⟩ ?_; intro v7 wd hO7 hg7 hgr7 hb7)
            simp only [fold_cells] at hO7
            have ST := Lib.hid (ST.out.padd (add' := ([] : List PV) ++ [r]) hgr7 (own_eq hO7 (by simp) (by simp [PVs])) (hb7.elim .inl fun h => .inr ⟨_, h, Nat.le_succ _⟩) (fun x hx => by
              rcases List.mem_append.1 hx with h | h
              · exact ST.out.va x h
              · rw [List.mem_singleton.1 h]; exact RX.out))
            clear hO7 hg7 hgr7 hb7 FP FQ RX
            obtain ⟨ad, had⟩ : ∃ ad : List PV, ad = (([] : List PV) ++ [r]) := ⟨_, rfl⟩
            have AL : Hid (ad.length ≤ 2) := by show _ ≤ _; rw [had]; simp
            rw [← had] at ST HQ1
            clear had
            obtain ⟨aa, ca, hav⟩ := own_slice ST.out.oa
            subst hav
            have RA := Lib.hid (Rd.own_lt ST.out.oa)
            have TO := Lib.hid ST.out.gr
            go_wp2
            go_loopw [14, 9] (fun i ov wr => ∃ (j : Nat) (out' : List PV), j ≤ ad.length ∧ i = .int .i64 j ∧ Hid (out' = out ++ ad.take j) ∧ Hid (HSt w ov (.slice aa ad.length ca) out' ad (6 * kk + 8) wr)) (fun i _ _ => ad.length - (intOf i).toNat)
            case atStart => exact ⟨0, out, Nat.zero_le _, rfl, Lib.hid (by simp), ST.out⟩
            case round =>
              obtain ⟨j, out', hj, rfl, ho', hst'⟩ := hrel
              obtain ⟨ax, cx, rfl⟩ := own_slice hst'.out.oo
              by_cases hjl : j < ad.length
              · have RA := Rd.own_lt hst'.out.oa
                obtain ⟨_, A', c', hv, p1, p2, -, p4⟩ := RA
                injection hv with e1 e2 e3
                clear e2
                subst e1 e3
                unfold maxLen at p2
                obtain ⟨b5, o5, rfl, hS5, hc5⟩ := p4 (by omega)
                obtain ⟨y0, y1, y2, y3, y4, y5, y6, y7⟩ := PV.mid (Grow.refl wr) hS5 hc5 hjl
                have VA := Lib.hid (hst'.out.va _ (List.getElem_mem hjl))
                have OT : Hid (out' ++ [ad[j]'hjl] = out ++ ad.take (j + 1)) := by show _ = _; rw [ho'.out, List.take_succ_eq_append_getElem hjl, List.append_assoc]
                have LO : Hid (out'.length ≤ 5000) := by show _ ≤ _; rw [ho'.out, List.length_append, List.length_take]; have := CT.out.2; have := AL.out; have := HLT.out; omega
                have ST := Lib.hid hst'.out
                clear hst' ho' hc5 p4
                generalize ad[j]'hjl = x at *
                go_upto_region 15 with (at_builtin; refine wpList_newAt rfl _ _ rfl el_pl (own_grow ST.out.oo (Grow.refl _)) rfl 1 _ rfl _ rfl (by decide) rfl (by simp [Value.oneCell']) (by have := LO.out; omega) ST.out.gr ⟨Nat.le_refl _, ST.out.gr.size⟩ ?_; intro v9 w9 hO9 hg9 hgr9 hb9)
                have STF := Lib.hid (ST.out.pout (out' := out' ++ [x]) hgr9 (own_eq hO9 (by simp) (show PVs out' ++ _ = PVs (out' ++ [x]) by rw [PVs_app]; rfl)) (hb9.elim .inl fun h => .inr ⟨_, h, Nat.le_succ _⟩) (fun y hy => by
                  rcases List.mem_append.1 hy with h | h
                  · exact ST.out.vo y h
                  · rw [List.mem_singleton.1 h]; exact VA.out))
                clear hO9 hg9 hgr9 hb9 ST y0 y1 y2 y3 y4 y5 y6 y7
                go_wp2
                go_roundw
                case rel => exact ⟨j + 1, out' ++ [x], by omega, by go_num, OT.out, STF.out⟩
                case measure => simp [intOf]; omega
              · obtain rfl : j = ad.length := by omega
                have OE : Hid (out' = out ++ ad) := by show _ = _; rw [ho'.out, List.take_length]
                have ST := Lib.hid hst'.out
                clear ho' hst'
                have EF : Hid (out'.map PV.q = cycTo (half1Q c false ab) (l.map PV.q) (k + 1) ∧ out'.length ≤ 2 * (k + 1)) := by
                  show _ ∧ _
                  rw [CS.out, ← CT.out.1, OE.out, half1Q_no, HQ1.out, List.map_append, List.length_append]
                  exact ⟨rfl, by have := CT.out.2; have := AL.out; omega⟩
                have STN := Lib.hid ST.out.nadd
                go_wp2
                go_roundw
                case rel => exact ⟨k + 1, out', by have := HLT.out; omega, by go_num, EF.out, STN.out⟩
                case measure => have := HLT.out; simp [intOf]; omega
      | true =>
        go_upto_region 7 with fail
        have GN := Lib.hid ((Grow.refl w5).dr)
        have ST := Lib.hid (ST.out.tr GN.out)
        have FP := Lib.hid (grow_blk GN.out FP.out)
        have FQ := Lib.hid (grow_blk GN.out FQ.out)
        have GR := Lib.hid (GR.out.tr GN.out)
        clear GN
        refine wp_region_lexT (Grow w5.drew) ((Grow.refl _)) 3 [0, 2, 1] (by kernel_rfl) (by kernel_rfl) (by intro c a d v w h; cases d <;> exact h) ?_
        apply lext_take; exact rfl; exact rfl; (intro W hW; exact exec_load_row 37 _ rfl b1 rfl 37 _ _ _ (grow_blk hW FP.out) rfl Try.underlying37 (by kernel_rfl))
        try simp only [Act.put, List.setIfInBounds_toArray, List.set_cons_zero, List.set_cons_succ]
        apply lext_take; exact rfl; exact rfl; (intro W hW; exact exec_load_row 37 _ rfl b2 rfl 37 _ _ _ (grow_blk hW FQ.out) rfl Try.underlying37 (by kernel_rfl))
        try simp only [Act.put, List.setIfInBounds_toArray, List.set_cons_zero, List.set_cons_succ]
        generalize w5.drew = w6 at *
        apply lext_turn; exact rfl; exact rfl; exact rfl; intro K hK; go_simp; refine turn_any p _ ?_; intro w7 hg7
        refine hK.out _ _ hg7 ?_
        have GR := Lib.hid (GR.out.tr hg7)
        have ST := Lib.hid (ST.out.tr hg7)
        have FP := Lib.hid (grow_blk hg7 FP.out)
        have FQ := Lib.hid (grow_blk hg7 FQ.out)
        clear hK hg7
        try simp only [Act.put, List.setIfInBounds_toArray, List.set_cons_zero, List.set_cons_succ]
        refine lext_nil ?_
        simp only [List.drop_succ_cons, List.drop_zero]
        go_wp2_with fail
        refine turn_any q _ ?_
        intro w8 hg8
        have GR := Lib.hid (GR.out.tr hg8)
        have ST := Lib.hid (ST.out.tr hg8)
        have FP := Lib.hid (grow_blk hg8 FP.out)
        have FQ := Lib.hid (grow_blk hg8 FQ.out)
        clear hg8 ST
        have H2 := Lib.hid ((setRow_other w8 b1 b2 p.turn.cells.toArray NE.out.2).trans FQ.out)
        go_upto_region 9 with (first | (refine wpList_store_row rfl 37 _ _ rfl b1 p.turn.cells.toArray rfl rfl 37 _ FP.out (by kernel_rfl) rfl (PV.one _) ?_) | (refine wpList_store_row rfl 37 _ _ rfl b2 q.turn.cells.toArray rfl rfl 37 _ H2.out (by kernel_rfl) rfl (PV.one _) ?_))
        have ST := Lib.hid (STR.out.tr ((GR.out.row LW.out.1 p.turn.cells.toArray).row LW.out.2 q.turn.cells.toArray))
        have FQn := Lib.hid (setRow_heap _ b2 _ q.turn.cells.toArray _ _ H2.out)
        have FP := Lib.hid ((setRow_other _ b2 b1 q.turn.cells.toArray NE.out.1).trans (setRow_heap _ b1 _ p.turn.cells.toArray _ _ FP.out))
        have FQ := Lib.hid FQn.out
        clear FQn H2 GR
        generalize (w8.setRow b1 p.turn.cells.toArray).setRow b2 q.turn.cells.toArray = w9 at *
        have lp : (p.turn).cells.length = 8 := rfl
        have IP := Lib.hid fun W (h : Grow w W) (R : Ending → World → Prop) hR => in25_any (p.turn) c ab kk _ W ((RP.out.turn).gr h) (by have := HK.out.1; omega) HK.out.2 (R := R) hR
        have IQ := Lib.hid fun W (h : Grow w W) (R : Ending → World → Prop) hR => in25_any (q.turn) c ab kk _ W ((RQ'.out.turn).gr h) (by have := HK.out.1; omega) HK.out.2 (R := R) hR
        obtain ⟨a1, ha1⟩ : ∃ b, inQ (p.turn).q.x c ab = b := ⟨_, rfl⟩
        obtain ⟨a2, ha2⟩ : ∃ b, inQ (q.turn).q.x c ab = b := ⟨_, rfl⟩
        rw [ha1] at IP
        rw [ha2] at IQ
        have HA1 := Lib.hid ha1
        have HA2 := Lib.hid ha2
        clear ha1 ha2
        go_wp2_with (refine wpList_load_row rfl 37 _ rfl b1 rfl 37 _ _ _ FP.out Try.underlying37 rfl (by kernel_rfl) ?_)
        refine IP.out _ ST.out.gr _ ?_
        intro w6 hg6
        have ST := Lib.hid (ST.out.tr hg6)
        have FP := Lib.hid (grow_blk hg6 FP.out)
        have FQ := Lib.hid (grow_blk hg6 FQ.out)
        clear hg6
        cases a1 with
        | true =>
          go_upto_region 11 with (first | (refine wpList_load_row rfl 37 _ rfl b1 rfl 37 _ _ _ FP.out Try.underlying37 rfl (by kernel_rfl) ?_) | (at_builtin; refine wpList_newAt rfl _ _ rfl el_pl (own_grow ST.out.oa (Grow.refl _)) rfl 1 _ rfl _ rfl (by decide) rfl (by simp [PV.cells, Value.oneCell']) (by decide) ST.out.gr ⟨Nat.le_refl _, ST.out.gr.size⟩ ?_; intro v7 w7 hO7 hg7 hgr7 hb7))
          simp only [fold_cells] at hO7
          have FP := Lib.hid ((hgr7.block b1 (lt_of_block FP.out) (by simp [Value.ownBlock])).trans FP.out)
          have FQ := Lib.hid ((hgr7.block b2 (lt_of_block FQ.out) (by simp [Value.ownBlock])).trans FQ.out)
          have ST := Lib.hid (ST.out.padd (add' := [p.turn]) hgr7 (own_eq hO7 rfl (by simp [PVs])) (hb7.elim .inl fun h => .inr ⟨_, h, Nat.le_succ _⟩) (fun x hx => by rw [List.mem_singleton.1 hx]; exact (((RP.out.turn).gr ST.out.gr).into fun b hb => ST.out.offlow hb).up (by omega)))
          clear hO7 hg7 hgr7 hb7
          have GN := Lib.hid ((Grow.refl _ : Grow w7 w7).dr)
          have ST := Lib.hid (ST.out.tr GN.out)
          have FP := Lib.hid (grow_blk GN.out FP.out)
          have FQ := Lib.hid (grow_blk GN.out FQ.out)
          refine wp_region_lexT (Grow (w7).drew) ((Grow.refl _)) 7 [0, 1, 2, 4, 5, 6, 3] (by kernel_rfl) (by kernel_rfl) (by intro c a d v w h; cases d <;> exact h) ?_
          apply lext_take; exact rfl; exact rfl; (intro W hW; exact exec_load_row 37 _ rfl b1 rfl 37 _ _ _ (grow_blk hW FP.out) rfl Try.underlying37 (by kernel_rfl))
          try simp only [Act.put, List.setIfInBounds_toArray, List.set_cons_zero, List.set_cons_succ]
          iterate 2 (apply lext_take; exact rfl; exact rfl; (intro W hW; (try clear hW); go_simp; with_reducible rfl); try simp only [Act.put, List.setIfInBounds_toArray, List.set_cons_zero, List.set_cons_succ])
          apply lext_take; exact rfl; exact rfl; (intro W hW; exact exec_load_row 37 _ rfl b2 rfl 37 _ _ _ (grow_blk hW FQ.out) rfl Try.underlying37 (by kernel_rfl))
          try simp only [Act.put, List.setIfInBounds_toArray, List.set_cons_zero, List.set_cons_succ]
          iterate 2 (apply lext_take; exact rfl; exact rfl; (intro W hW; (try clear hW); go_simp; with_reducible rfl); try simp only [Act.put, List.setIfInBounds_toArray, List.set_cons_zero, List.set_cons_succ])
          generalize (w7).drew = w8 at *
          clear GN
          apply lext_turn; exact rfl; exact rfl; exact rfl; intro K hK; go_simp; refine IP.out _ ST.out.gr _ ?_; intro w9 hg9
          refine hK.out _ _ hg9 ?_
          have ST := Lib.hid (ST.out.tr hg9)
          have FP := Lib.hid (grow_blk hg9 FP.out)
          have FQ := Lib.hid (grow_blk hg9 FQ.out)
          clear hK hg9
          try simp only [Act.put, List.setIfInBounds_toArray, List.set_cons_zero, List.set_cons_succ]
          refine lext_nil ?_
          simp only [List.drop_succ_cons, List.drop_zero]
          go_wp2_with fail
          refine IQ.out _ ST.out.gr _ ?_
          intro wa hga
          have ST := Lib.hid (ST.out.tr hga)
          have FP := Lib.hid (grow_blk hga FP.out)
          have FQ := Lib.hid (grow_blk hga FQ.out)
          clear hga IP IQ
          cases a2 with
          | true =>
            go_upto_region 13 with fail
            have HQ1 : Hid (half1R c ab (p.turn).q (q.turn).q = ([p.turn]).map PV.q) := by
              show _ = _
              unfold half1R
              rw [HA1.out, HA2.out]
              simp
            clear HA1 HA2 FP FQ
            obtain ⟨ad, had⟩ : ∃ ad : List PV, ad = ([p.turn]) := ⟨_, rfl⟩
            have AL : Hid (ad.length ≤ 2) := by show _ ≤ _; rw [had]; simp
            rw [← had] at ST HQ1
            clear had
            obtain ⟨aa, ca, hav⟩ := own_slice ST.out.oa
            subst hav
            go_wp2
            go_loopw [14, 9] (fun i ov wr => ∃ (j : Nat) (out' : List PV), j ≤ ad.length ∧ i = .int .i64 j ∧ Hid (out' = out ++ (ad.take j).map PV.turn) ∧ Hid (HSt w ov (.slice aa ad.length ca) out' ((ad.take j).map PV.turn ++ ad.drop j) (6 * kk + 8) wr)) (fun i _ _ => ad.length - (intOf i).toNat)
            case atStart => exact ⟨0, out, Nat.zero_le _, rfl, Lib.hid (by simp), Lib.hid (by simpa using ST.out)⟩
            case round =>
              obtain ⟨j, out', hj, rfl, ho', hst'⟩ := hrel
              obtain ⟨ax, cx, rfl⟩ := own_slice hst'.out.oo
              by_cases hjl : j < ad.length
              · obtain ⟨t1, t2, t3⟩ := turn_step hjl
                have OT : Hid (out' ++ [(ad[j]'hjl).turn] = out ++ (ad.take (j + 1)).map PV.turn) := by show _ = _; rw [ho'.out, List.take_succ_eq_append_getElem hjl, List.map_append, List.append_assoc]; rfl
                have LO : Hid (out'.length ≤ 5000) := by show _ ≤ _; rw [ho'.out, List.length_append, List.length_map, List.length_take]; have := CT.out.2; have := AL.out; have := HLT.out; omega
                have ST := Lib.hid hst'.out
                clear hst' ho'
                generalize hx : ad[j]'hjl = x at *
                generalize had' : (ad.take j).map PV.turn ++ ad.drop j = ad' at *
                have T3 := Lib.hid t3
                have oa := ST.out.oa
                rw [t1] at oa
                obtain ⟨g, cg, hg⟩ := own_form oa (by omega)
                injection hg with e1 e2 e3
                subst e1 e3
                clear e2
                have hj' : j < ad'.length := by omega
                have VX := Lib.hid (ST.out.va x (List.mem_of_getElem? t2))
                have RA := Rd.own_lt oa
                obtain ⟨_, A', c', hv, p1, p2, -, p4⟩ := RA
                injection hv with e1 e2 e3
                clear e2
                subst e3
                unfold maxLen at p2
                obtain ⟨b5, o5, hA5, hS5, hc5⟩ := p4 (by omega)
                subst e1
                injection hA5 with hA5
                injection hA5 with q1 q2 q3
                subst q1 q2
                obtain ⟨y0, y1, y2, y3, y4, y5, y6, y7⟩ := PV.mid (Grow.refl wr) hS5 hc5 hj'
                have hx' : ad'[j]'hj' = x := by rw [List.getElem?_eq_getElem hj'] at t2; exact Option.some.inj t2
                rw [hx'] at y0 y1 y2 y3 y4 y5 y6 y7
                simp only [Nat.zero_add] at y0 y1 y2 y3 y4 y5 y6 y7
                have MX : Hid (x ∈ ad') := List.mem_of_getElem? t2
                have T1 := Lib.hid t1
                clear hx' hc5 p4 t2 t3 oa VX
                go_wp2_with fail
                refine turn_any x _ ?_
                intro wt hgt
                have ST := Lib.hid (ST.out.tr hgt)
                clear hgt y0 y1 y2 y3 y4 y5 y6 y7
                have oa := ST.out.oa
                rw [T1.out] at oa
                have HT : Hid (wt.there g (j * 8) 8) := fun i hi => ⟨by
                  rw [World.ownsRow.cellAt oa (j * 8 + i) (by omega), List.getElem?_eq_getElem (by rw [PVs_len]; omega)]
                  rfl, World.ownsRow.frozenAt oa _⟩
                obtain ⟨os, gs⟩ := own_setPV oa hj' x.turn
                have ls : (ad'.set j x.turn).length = ad.length := by rw [List.length_set, T1.out]
                have ST2 := Lib.hid (ST.out.padd (add' := ad'.set j x.turn) (by simpa [Value.ownBlock] using gs) (own_eq os ls.symm rfl) (.inl rfl) (fun y hy => (List.mem_or_eq_of_mem_set hy).elim (fun h => ST.out.va y h) (fun h => by rw [h]; exact (ST.out.va x MX.out).turn)))
                have LS := Lib.hid ls
                clear os gs ls oa ST
                go_upto_region 18 with (refine wpList_store_mid rfl 37 _ _ rfl g (j * 8) x.turn.cells.toArray rfl rfl HT.out (by kernel_rfl) (PV.one _) ?_)
                rw [show wt.setCells g (j * 8) x.turn.cells.toArray.toList = wt.setCells g (j * 8) x.turn.cells from rfl]
                generalize wt.setCells g (j * 8) x.turn.cells = ws at *
                have oa := ST2.out.oa
                rw [LS.out] at oa
                obtain ⟨_, A', c', hv, -, -, -, p4⟩ := Rd.own_lt oa
                injection hv with e1 e2 e3
                clear e2
                subst e3
                obtain ⟨b5, o5, hA5, hS6, hc6⟩ := p4 (by omega)
                subst e1
                injection hA5 with hA5
                injection hA5 with q1 q2 q3
                subst q1 q2
                have hj6 : j < (ad'.set j x.turn).length := by rw [LS.out]; exact hjl
                obtain ⟨y0, y1, y2, y3, y4, y5, y6, y7⟩ := PV.mid (Grow.refl ws) hS6 hc6 hj6
                simp only [List.getElem_set_self, Nat.zero_add] at y0 y1 y2 y3 y4 y5 y6 y7
                clear p4 hc6 oa hj6 HT
                go_upto_region 15 with (at_builtin; refine wpList_newAt rfl _ _ rfl el_pl (own_grow ST2.out.oo (Grow.refl _)) rfl 1 _ rfl _ rfl (by decide) rfl (by simp [Value.oneCell']) (by have := LO.out; omega) ST2.out.gr ⟨Nat.le_refl _, ST2.out.gr.size⟩ ?_; intro v9 w9 hO9 hg9 hgr9 hb9)
                have STF := Lib.hid (ST2.out.pout (out' := out' ++ [x.turn]) hgr9 (own_eq hO9 (by simp) (show PVs out' ++ _ = PVs (out' ++ [x.turn]) by rw [PVs_app]; rfl)) (hb9.elim .inl fun h => .inr ⟨_, h, Nat.le_succ _⟩) (fun y hy => by
                  rcases List.mem_append.1 hy with h | h
                  · exact ST2.out.vo y h
                  · rw [List.mem_singleton.1 h]
                    exact ST2.out.va _ (by rw [List.mem_iff_getElem]; exact ⟨j, by rw [LS.out]; exact hjl, List.getElem_set_self ..⟩)))
                rw [T3.out] at STF
                clear hO9 hg9 hgr9 hb9 ST2 y0 y1 y2 y3 y4 y5 y6 y7
                go_wp2
                go_roundw
                case rel => exact ⟨j + 1, out' ++ [x.turn], by omega, by go_num, OT.out, STF.out⟩
                case measure => simp [intOf]; omega
              · obtain rfl : j = ad.length := by omega
                have OE : Hid (out' = out ++ ad.map PV.turn) := by show _ = _; rw [ho'.out, List.take_length]
                have ST := Lib.hid hst'.out
                clear ho' hst'
                have EF : Hid (out'.map PV.q = cycTo (half1Q c true ab) (l.map PV.q) (k + 1) ∧ out'.length ≤ 2 * (k + 1)) := by
                  show _ ∧ _
                  rw [CS.out, ← CT.out.1, OE.out, half1Q_up, ← PV.turn_q, ← PV.turn_q, HQ1.out, List.map_append, List.length_append, List.length_map]
                  exact ⟨by simp [PV.turn_q], by have := CT.out.2; have := AL.out; omega⟩
                have STN := Lib.hid ST.out.nadd
                go_wp2
                go_roundw
                case rel => exact ⟨k + 1, out', by have := HLT.out; omega, by go_num, EF.out, STN.out⟩
                case measure => have := HLT.out; simp [intOf]; omega
          | false =>
            have XNE : Hid ((p.turn).q.x ≠ (q.turn).q.x) := fun e => by
              have h1 := HA1.out
              have h2 := HA2.out
              rw [e, h2] at h1
              cases h1
            have CX := Lib.hid fun W (h : Grow w W) (R : Ending → World → Prop) hR => cross25_any (p.turn) (q.turn) c kk _ W ((RP.out.turn).gr h) ((RQ'.out.turn).gr h) HK.out.1 HK.out.2 XNE.out (R := R) hR
            go_wp2_with (first | (refine wpList_load_row rfl 37 _ rfl b1 rfl 37 _ _ _ FP.out Try.underlying37 rfl (by kernel_rfl) ?_) | (refine wpList_load_row rfl 37 _ rfl b2 rfl 37 _ _ _ FQ.out Try.underlying37 rfl (by kernel_rfl) ?_))
            refine CX.out _ ST.out.gr _ ?_
            intro r wc hgc hrq hrr
            have RX := Lib.hid (hrr.into (T := OffB _ _) fun b hb => ST.out.off hb)
            have HQ1 : Hid (half1R c ab (p.turn).q (q.turn).q = ([p.turn] ++ [r]).map PV.q) := by
              show _ = _
              unfold half1R
              rw [HA1.out, HA2.out]
              simp [hrq]
            have lr : r.cells.length = 8 := rfl
            have ST := Lib.hid (ST.out.tr hgc)
            have FP := Lib.hid (grow_blk hgc FP.out)
            have FQ := Lib.hid (grow_blk hgc FQ.out)
            clear hgc hrq hrr CX XNE HA1 HA2
            go_upto_region 13 with (at_builtin; refine wpList_newAt rfl _ _ rfl el_pl (own_grow ST.out.oa (Grow.refl _)) rfl 1 _ rfl _ rfl (by decide) rfl (by simp [PV.cells, Value.oneCell']) (by simp) ST.out.gr ⟨Nat.le_refl _, ST.out.gr.size⟩ ?_; intro v7 wd hO7 hg7 hgr7 hb7)
            simp only [fold_cells] at hO7
            have ST := Lib.hid (ST.out.padd (add' := [p.turn] ++ [r]) hgr7 (own_eq hO7 (by simp) (by simp [PVs])) (hb7.elim .inl fun h => .inr ⟨_, h, Nat.le_succ _⟩) (fun x hx => by
              rcases List.mem_append.1 hx with h | h
              · exact ST.out.va x h
              · rw [List.mem_singleton.1 h]; exact RX.out))
            clear hO7 hg7 hgr7 hb7 FP FQ RX
            obtain ⟨ad, had⟩ : ∃ ad : List PV, ad = ([p.turn] ++ [r]) := ⟨_, rfl⟩
            have AL : Hid (ad.length ≤ 2) := by show _ ≤ _; rw [had]; simp
            rw [← had] at ST HQ1
            clear had
            obtain ⟨aa, ca, hav⟩ := own_slice ST.out.oa
            subst hav
            go_wp2
            go_loopw [14, 9] (fun i ov wr => ∃ (j : Nat) (out' : List PV), j ≤ ad.length ∧ i = .int .i64 j ∧ Hid (out' = out ++ (ad.take j).map PV.turn) ∧ Hid (HSt w ov (.slice aa ad.length ca) out' ((ad.take j).map PV.turn ++ ad.drop j) (6 * kk + 8) wr)) (fun i _ _ => ad.length - (intOf i).toNat)
            case atStart => exact ⟨0, out, Nat.zero_le _, rfl, Lib.hid (by simp), Lib.hid (by simpa using ST.out)⟩
            case round =>
              obtain ⟨j, out', hj, rfl, ho', hst'⟩ := hrel
              obtain ⟨ax, cx, rfl⟩ := own_slice hst'.out.oo
              by_cases hjl : j < ad.length
              · obtain ⟨t1, t2, t3⟩ := turn_step hjl
                have OT : Hid (out' ++ [(ad[j]'hjl).turn] = out ++ (ad.take (j + 1)).map PV.turn) := by show _ = _; rw [ho'.out, List.take_succ_eq_append_getElem hjl, List.map_append, List.append_assoc]; rfl
                have LO : Hid (out'.length ≤ 5000) := by show _ ≤ _; rw [ho'.out, List.length_append, List.length_map, List.length_take]; have := CT.out.2; have := AL.out; have := HLT.out; omega
                have ST := Lib.hid hst'.out
                clear hst' ho'
                generalize hx : ad[j]'hjl = x at *
                generalize had' : (ad.take j).map PV.turn ++ ad.drop j = ad' at *
                have T3 := Lib.hid t3
                have oa := ST.out.oa
                rw [t1] at oa
                obtain ⟨g, cg, hg⟩ := own_form oa (by omega)
                injection hg with e1 e2 e3
                subst e1 e3
                clear e2
                have hj' : j < ad'.length := by omega
                have VX := Lib.hid (ST.out.va x (List.mem_of_getElem? t2))
                have RA := Rd.own_lt oa
                obtain ⟨_, A', c', hv, p1, p2, -, p4⟩ := RA
                injection hv with e1 e2 e3
                clear e2
                subst e3
                unfold maxLen at p2
                obtain ⟨b5, o5, hA5, hS5, hc5⟩ := p4 (by omega)
                subst e1
                injection hA5 with hA5
                injection hA5 with q1 q2 q3
                subst q1 q2
                obtain ⟨y0, y1, y2, y3, y4, y5, y6, y7⟩ := PV.mid (Grow.refl wr) hS5 hc5 hj'
                have hx' : ad'[j]'hj' = x := by rw [List.getElem?_eq_getElem hj'] at t2; exact Option.some.inj t2
                rw [hx'] at y0 y1 y2 y3 y4 y5 y6 y7
                simp only [Nat.zero_add] at y0 y1 y2 y3 y4 y5 y6 y7
                have MX : Hid (x ∈ ad') := List.mem_of_getElem? t2
                have T1 := Lib.hid t1
                clear hx' hc5 p4 t2 t3 oa VX
                go_wp2_with fail
                refine turn_any x _ ?_
                intro wt hgt
                have ST := Lib.hid (ST.out.tr hgt)
                clear hgt y0 y1 y2 y3 y4 y5 y6 y7
                have oa := ST.out.oa
                rw [T1.out] at oa
                have HT : Hid (wt.there g (j * 8) 8) := fun i hi => ⟨by
                  rw [World.ownsRow.cellAt oa (j * 8 + i) (by omega), List.getElem?_eq_getElem (by rw [PVs_len]; omega)]
                  rfl, World.ownsRow.frozenAt oa _⟩
                obtain ⟨os, gs⟩ := own_setPV oa hj' x.turn
                have ls : (ad'.set j x.turn).length = ad.length := by rw [List.length_set, T1.out]
                have ST2 := Lib.hid (ST.out.padd (add' := ad'.set j x.turn) (by simpa [Value.ownBlock] using gs) (own_eq os ls.symm rfl) (.inl rfl) (fun y hy => (List.mem_or_eq_of_mem_set hy).elim (fun h => ST.out.va y h) (fun h => by rw [h]; exact (ST.out.va x MX.out).turn)))
                have LS := Lib.hid ls
                clear os gs ls oa ST
                go_upto_region 18 with (refine wpList_store_mid rfl 37 _ _ rfl g (j * 8) x.turn.cells.toArray rfl rfl HT.out (by kernel_rfl) (PV.one _) ?_)
                rw [show wt.setCells g (j * 8) x.turn.cells.toArray.toList = wt.setCells g (j * 8) x.turn.cells from rfl]
                generalize wt.setCells g (j * 8) x.turn.cells = ws at *
                have oa := ST2.out.oa
                rw [LS.out] at oa
                obtain ⟨_, A', c', hv, -, -, -, p4⟩ := Rd.own_lt oa
                injection hv with e1 e2 e3
                clear e2
                subst e3
                obtain ⟨b5, o5, hA5, hS6, hc6⟩ := p4 (by omega)
                subst e1
                injection hA5 with hA5
                injection hA5 with q1 q2 q3
                subst q1 q2
                have hj6 : j < (ad'.set j x.turn).length := by rw [LS.out]; exact hjl
                obtain ⟨y0, y1, y2, y3, y4, y5, y6, y7⟩ := PV.mid (Grow.refl ws) hS6 hc6 hj6
                simp only [List.getElem_set_self, Nat.zero_add] at y0 y1 y2 y3 y4 y5 y6 y7
                clear p4 hc6 oa hj6 HT
                go_upto_region 15 with (at_builtin; refine wpList_newAt rfl _ _ rfl el_pl (own_grow ST2.out.oo (Grow.refl _)) rfl 1 _ rfl _ rfl (by decide) rfl (by simp [Value.oneCell']) (by have := LO.out; omega) ST2.out.gr ⟨Nat.le_refl _, ST2.out.gr.size⟩ ?_; intro v9 w9 hO9 hg9 hgr9 hb9)
                have STF := Lib.hid (ST2.out.pout (out' := out' ++ [x.turn]) hgr9 (own_eq hO9 (by simp) (show PVs out' ++ _ = PVs (out' ++ [x.turn]) by rw [PVs_app]; rfl)) (hb9.elim .inl fun h => .inr ⟨_, h, Nat.le_succ _⟩) (fun y hy => by
                  rcases List.mem_append.1 hy with h | h
                  · exact ST2.out.vo y h
                  · rw [List.mem_singleton.1 h]
                    exact ST2.out.va _ (by rw [List.mem_iff_getElem]; exact ⟨j, by rw [LS.out]; exact hjl, List.getElem_set_self ..⟩)))
                rw [T3.out] at STF
                clear hO9 hg9 hgr9 hb9 ST2 y0 y1 y2 y3 y4 y5 y6 y7
                go_wp2
                go_roundw
                case rel => exact ⟨j + 1, out' ++ [x.turn], by omega, by go_num, OT.out, STF.out⟩
                case measure => simp [intOf]; omega
              · obtain rfl : j = ad.length := by omega
                have OE : Hid (out' = out ++ ad.map PV.turn) := by show _ = _; rw [ho'.out, List.take_length]
                have ST := Lib.hid hst'.out
                clear ho' hst'
                have EF : Hid (out'.map PV.q = cycTo (half1Q c true ab) (l.map PV.q) (k + 1) ∧ out'.length ≤ 2 * (k + 1)) := by
                  show _ ∧ _
                  rw [CS.out, ← CT.out.1, OE.out, half1Q_up, ← PV.turn_q, ← PV.turn_q, HQ1.out, List.map_append, List.length_append, List.length_map]
                  exact ⟨by simp [PV.turn_q], by have := CT.out.2; have := AL.out; omega⟩
                have STN := Lib.hid ST.out.nadd
                go_wp2
                go_roundw
                case rel => exact ⟨k + 1, out', by have := HLT.out; omega, by go_num, EF.out, STN.out⟩
                case measure => have := HLT.out; simp [intOf]; omega
        | false =>
          go_upto_region 11 with fail
          have GN := Lib.hid ((Grow.refl _ : Grow w6 w6).dr)
          have ST := Lib.hid (ST.out.tr GN.out)
          have FP := Lib.hid (grow_blk GN.out FP.out)
          have FQ := Lib.hid (grow_blk GN.out FQ.out)
          refine wp_region_lexT (Grow (w6).drew) ((Grow.refl _)) 7 [0, 1, 2, 4, 5, 6, 3] (by kernel_rfl) (by kernel_rfl) (by intro c a d v w h; cases d <;> exact h) ?_
          apply lext_take; exact rfl; exact rfl; (intro W hW; exact exec_load_row 37 _ rfl b1 rfl 37 _ _ _ (grow_blk hW FP.out) rfl Try.underlying37 (by kernel_rfl))
          try simp only [Act.put, List.setIfInBounds_toArray, List.set_cons_zero, List.set_cons_succ]
          iterate 2 (apply lext_take; exact rfl; exact rfl; (intro W hW; (try clear hW); go_simp; with_reducible rfl); try simp only [Act.put, List.setIfInBounds_toArray, List.set_cons_zero, List.set_cons_succ])
          apply lext_take; exact rfl; exact rfl; (intro W hW; exact exec_load_row 37 _ rfl b2 rfl 37 _ _ _ (grow_blk hW FQ.out) rfl Try.underlying37 (by kernel_rfl))
          try simp only [Act.put, List.setIfInBounds_toArray, List.set_cons_zero, List.set_cons_succ]
          iterate 2 (apply lext_take; exact rfl; exact rfl; (intro W hW; (try clear hW); go_simp; with_reducible rfl); try simp only [Act.put, List.setIfInBounds_toArray, List.set_cons_zero, List.set_cons_succ])
          generalize (w6).drew = w8 at *
          clear GN
          apply lext_turn; exact rfl; exact rfl; exact rfl; intro K hK; go_simp; refine IP.out _ ST.out.gr _ ?_; intro w9 hg9
          refine hK.out _ _ hg9 ?_
          have ST := Lib.hid (ST.out.tr hg9)
          have FP := Lib.hid (grow_blk hg9 FP.out)
          have FQ := Lib.hid (grow_blk hg9 FQ.out)
          clear hK hg9
          try simp only [Act.put, List.setIfInBounds_toArray, List.set_cons_zero, List.set_cons_succ]
          refine lext_nil ?_
          simp only [List.drop_succ_cons, List.drop_zero]
          go_wp2_with fail
          refine IQ.out _ ST.out.gr _ ?_
          intro wa hga
          have ST := Lib.hid (ST.out.tr hga)
          have FP := Lib.hid (grow_blk hga FP.out)
          have FQ := Lib.hid (grow_blk hga FQ.out)
          clear hga IP IQ
          cases a2 with
          | false =>
            go_upto_region 13 with fail
            have HQ1 : Hid (half1R c ab (p.turn).q (q.turn).q = (([] : List PV)).map PV.q) := by
              show _ = _
              unfold half1R
              rw [HA1.out, HA2.out]
              simp
            clear HA1 HA2 FP FQ
            have STN := Lib.hid ST.out.nadd
            have GX : Hid (Grow w wa) := ST.out.gr
            have EF : Hid (out.map PV.q = cycTo (half1Q c true ab) (l.map PV.q) (k + 1) ∧ out.length ≤ 2 * (k + 1)) := by
              show _ ∧ _
              rw [CS.out, ← CT.out.1, half1Q_up, ← PV.turn_q, ← PV.turn_q, HQ1.out]
              exact ⟨by simp, by have := CT.out.2; omega⟩
            clear ST HQ1
            go_wp2
            go_loopw [14, 9] (fun i ov wr => i = .int .i64 0 ∧ ov = .slice ao out.length co ∧ Hid (HSt w (.slice ao out.length co) (.slice none 0 0) out [] (6 * kk + 8) wr)) (fun _ _ _ => 0)
            case atStart => exact ⟨rfl, rfl, STN.out⟩
            case round =>
              obtain ⟨rfl, rfl, hst'⟩ := hrel
              go_wp2
              go_roundw
              case rel => exact ⟨k + 1, out, by have := HLT.out; omega, by go_num, EF.out, hst'.out⟩
              case measure => have := HLT.out; simp [intOf]; omega
          | true =>
            have XNE : Hid ((p.turn).q.x ≠ (q.turn).q.x) := fun e => by
              have h1 := HA1.out
              have h2 := HA2.out
              rw [e, h2] at h1
              cases h1
            have CX := Lib.hid fun W (h : Grow w W) (R : Ending → World → Prop) hR => cross25_any (p.turn) (q.turn) c kk _ W ((RP.out.turn).gr h) ((RQ'.out.turn).gr h) HK.out.1 HK.out.2 XNE.out (R := R) hR
            go_wp2_with (first | (refine wpList_load_row rfl 37 _ rfl b1 rfl 37 _ _ _ FP.out Try.underlying37 rfl (by kernel_rfl) ?_) | (refine wpList_load_row rfl 37 _ rfl b2 rfl 37 _ _ _ FQ.out Try.underlying37 rfl (by kernel_rfl) ?_))
            refine CX.out _ ST.out.gr _ ?_
            intro r wc hgc hrq hrr
            have RX := Lib.hid (hrr.into (T := OffB _ _) fun b hb => ST.out.off hb)
            have HQ1 : Hid (half1R c ab (p.turn).q (q.turn).q = (([] : List PV) ++ [r]).map PV.q) := by
              show _ = _
              unfold half1R
              rw [HA1.out, HA2.out]
              simp [hrq]
            have lr : r.cells.length = 8 := rfl
            have ST := Lib.hid (ST.out.tr hgc)
            have FP := Lib.hid (grow_blk hgc FP.out)
            have FQ := Lib.hid (grow_blk hgc FQ.out)
            clear hgc hrq hrr CX XNE HA1 HA2
            go_upto_region 13 with (at_builtin; refine wpList_newAt rfl _ _ rfl el_pl (own_grow ST.out.oa (Grow.refl _)) rfl 1 _ rfl _ rfl (by decide) rfl (by simp [PV.cells, Value.oneCell']) (by simp) ST.out.gr ⟨Nat.le_refl _, ST.out.gr.size⟩ ?_; intro v7 wd hO7 hg7 hgr7 hb7)
            simp only [fold_cells] at hO7
            have ST := Lib.hid (ST.out.padd (add' := ([] : List PV) ++ [r]) hgr7 (own_eq hO7 (by simp) (by simp [PVs])) (hb7.elim .inl fun h => .inr ⟨_, h, Nat.le_succ _⟩) (fun x hx => by
              rcases List.mem_append.1 hx with h | h
              · exact ST.out.va x h
              · rw [List.mem_singleton.1 h]; exact RX.out))
            clear hO7 hg7 hgr7 hb7 FP FQ RX
            obtain ⟨ad, had⟩ : ∃ ad : List PV, ad = (([] : List PV) ++ [r]) := ⟨_, rfl⟩
            have AL : Hid (ad.length ≤ 2) := by show _ ≤ _; rw [had]; simp
            rw [← had] at ST HQ1
            clear had
            obtain ⟨aa, ca, hav⟩ := own_slice ST.out.oa
            subst hav
            go_wp2
            go_loopw [14, 9] (fun i ov wr => ∃ (j : Nat) (out' : List PV), j ≤ ad.length ∧ i = .int .i64 j ∧ Hid (out' = out ++ (ad.take j).map PV.turn) ∧ Hid (HSt w ov (.slice aa ad.length ca) out' ((ad.take j).map PV.turn ++ ad.drop j) (6 * kk + 8) wr)) (fun i _ _ => ad.length - (intOf i).toNat)
            case atStart => exact ⟨0, out, Nat.zero_le _, rfl, Lib.hid (by simp), Lib.hid (by simpa using ST.out)⟩
            case round =>
              obtain ⟨j, out', hj, rfl, ho', hst'⟩ := hrel
              obtain ⟨ax, cx, rfl⟩ := own_slice hst'.out.oo
              by_cases hjl : j < ad.length
              · obtain ⟨t1, t2, t3⟩ := turn_step hjl
                have OT : Hid (out' ++ [(ad[j]'hjl).turn] = out ++ (ad.take (j + 1)).map PV.turn) := by show _ = _; rw [ho'.out, List.take_succ_eq_append_getElem hjl, List.map_append, List.append_assoc]; rfl
                have LO : Hid (out'.length ≤ 5000) := by show _ ≤ _; rw [ho'.out, List.length_append, List.length_map, List.length_take]; have := CT.out.2; have := AL.out; have := HLT.out; omega
                have ST := Lib.hid hst'.out
                clear hst' ho'
                generalize hx : ad[j]'hjl = x at *
                generalize had' : (ad.take j).map PV.turn ++ ad.drop j = ad' at *
                have T3 := Lib.hid t3
                have oa := ST.out.oa
                rw [t1] at oa
                obtain ⟨g, cg, hg⟩ := own_form oa (by omega)
                injection hg with e1 e2 e3
                subst e1 e3
                clear e2
                have hj' : j < ad'.length := by omega
                have VX := Lib.hid (ST.out.va x (List.mem_of_getElem? t2))
                have RA := Rd.own_lt oa
                obtain ⟨_, A', c', hv, p1, p2, -, p4⟩ := RA
                injection hv with e1 e2 e3
                clear e2
                subst e3
                unfold maxLen at p2
                obtain ⟨b5, o5, hA5, hS5, hc5⟩ := p4 (by omega)
                subst e1
                injection hA5 with hA5
                injection hA5 with q1 q2 q3
                subst q1 q2
                obtain ⟨y0, y1, y2, y3, y4, y5, y6, y7⟩ := PV.mid (Grow.refl wr) hS5 hc5 hj'
                have hx' : ad'[j]'hj' = x := by rw [List.getElem?_eq_getElem hj'] at t2; exact Option.some.inj t2
                rw [hx'] at y0 y1 y2 y3 y4 y5 y6 y7
                simp only [Nat.zero_add] at y0 y1 y2 y3 y4 y5 y6 y7
                have MX : Hid (x ∈ ad') := List.mem_of_getElem? t2
                have T1 := Lib.hid t1
                clear hx' hc5 p4 t2 t3 oa VX
                go_wp2_with fail
                refine turn_any x _ ?_
                intro wt hgt
                have ST := Lib.hid (ST.out.tr hgt)
                clear hgt y0 y1 y2 y3 y4 y5 y6 y7
                have oa := ST.out.oa
                rw [T1.out] at oa
                have HT : Hid (wt.there g (j * 8) 8) := fun i hi => ⟨by
                  rw [World.ownsRow.cellAt oa (j * 8 + i) (by omega), List.getElem?_eq_getElem (by rw [PVs_len]; omega)]
                  rfl, World.ownsRow.frozenAt oa _⟩
                obtain ⟨os, gs⟩ := own_setPV oa hj' x.turn
                have ls : (ad'.set j x.turn).length = ad.length := by rw [List.length_set, T1.out]
                have ST2 := Lib.hid (ST.out.padd (add' := ad'.set j x.turn) (by simpa [Value.ownBlock] using gs) (own_eq os ls.symm rfl) (.inl rfl) (fun y hy => (List.mem_or_eq_of_mem_set hy).elim (fun h => ST.out.va y h) (fun h => by rw [h]; exact (ST.out.va x MX.out).turn)))
                have LS := Lib.hid ls
                clear os gs ls oa ST
                go_upto_region 18 with (refine wpList_store_mid rfl 37 _ _ rfl g (j * 8) x.turn.cells.toArray rfl rfl HT.out (by kernel_rfl) (PV.one _) ?_)
                rw [show wt.setCells g (j * 8) x.turn.cells.toArray.toList = wt.setCells g (j * 8) x.turn.cells from rfl]
                generalize wt.setCells g (j * 8) x.turn.cells = ws at *
                have oa := ST2.out.oa
                rw [LS.out] at oa
                obtain ⟨_, A', c', hv, -, -, -, p4⟩ := Rd.own_lt oa
                injection hv with e1 e2 e3
                clear e2
                subst e3
                obtain ⟨b5, o5, hA5, hS6, hc6⟩ := p4 (by omega)
                subst e1
                injection hA5 with hA5
                injection hA5 with q1 q2 q3
                subst q1 q2
                have hj6 : j < (ad'.set j x.turn).length := by rw [LS.out]; exact hjl
                obtain ⟨y0, y1, y2, y3, y4, y5, y6, y7⟩ := PV.mid (Grow.refl ws) hS6 hc6 hj6
                simp only [List.getElem_set_self, Nat.zero_add] at y0 y1 y2 y3 y4 y5 y6 y7
                clear p4 hc6 oa hj6 HT
                go_upto_region 15 with (at_builtin; refine wpList_newAt rfl _ _ rfl el_pl (own_grow ST2.out.oo (Grow.refl _)) rfl 1 _ rfl _ rfl (by decide) rfl (by simp [Value.oneCell']) (by have := LO.out; omega) ST2.out.gr ⟨Nat.le_refl _, ST2.out.gr.size⟩ ?_; intro v9 w9 hO9 hg9 hgr9 hb9)
                have STF := Lib.hid (ST2.out.pout (out' := out' ++ [x.turn]) hgr9 (own_eq hO9 (by simp) (show PVs out' ++ _ = PVs (out' ++ [x.turn]) by rw [PVs_app]; rfl)) (hb9.elim .inl fun h => .inr ⟨_, h, Nat.le_succ _⟩) (fun y hy => by
                  rcases List.mem_append.1 hy with h | h
                  · exact ST2.out.vo y h
                  · rw [List.mem_singleton.1 h]
                    exact ST2.out.va _ (by rw [List.mem_iff_getElem]; exact ⟨j, by rw [LS.out]; exact hjl, List.getElem_set_self ..⟩)))
                rw [T3.out] at STF
                clear hO9 hg9 hgr9 hb9 ST2 y0 y1 y2 y3 y4 y5 y6 y7
                go_wp2
                go_roundw
                case rel => exact ⟨j + 1, out' ++ [x.turn], by omega, by go_num, OT.out, STF.out⟩
                case measure => simp [intOf]; omega
              · obtain rfl : j = ad.length := by omega
                have OE : Hid (out' = out ++ ad.map PV.turn) := by show _ = _; rw [ho'.out, List.take_length]
                have ST := Lib.hid hst'.out
                clear ho' hst'
                have EF : Hid (out'.map PV.q = cycTo (half1Q c true ab) (l.map PV.q) (k + 1) ∧ out'.length ≤ 2 * (k + 1)) := by
                  show _ ∧ _
                  rw [CS.out, ← CT.out.1, OE.out, half1Q_up, ← PV.turn_q, ← PV.turn_q, HQ1.out, List.map_append, List.length_append, List.length_map]
                  exact ⟨by simp [PV.turn_q], by have := CT.out.2; have := AL.out; omega⟩
                have STN := Lib.hid ST.out.nadd
                go_wp2
                go_roundw
                case rel => exact ⟨k + 1, out', by have := HLT.out; omega, by go_num, EF.out, STN.out⟩
                case measure => have := HLT.out; simp [intOf]; omega
    · obtain rfl : k = l.length := by omega
      have ST := Lib.hid hst.out
      have EV : Hid (out.map PV.q = halfQ c up ab (l.map PV.q)) := by show _ = _; unfold halfQ; rw [List.length_map]; exact hct.out.1
      clear hst hct k4
      go_wp2
      exact HR.out _ out _ ST.out.oo EV.out (fun p hp => (ST.out.vo p hp).into fun _ _ => trivial) ST.out.gr
end Go.Proofs.Ytjcgkhcbdbbdkaa
