/-
  The reader of path.Decode: closed, points.
-/
import Derived.Test.YtehffeglgdcogaaChecked
import Derived.Test.YtehffeglgdcogaaPRdr
import Derived.Test.YtehffeglgdcogaaPathP
namespace Go.Proofs.Ytehffeglgdcogaa
open Go.RowKit B

def preP (ps : List Pt) : Except Int (List Pt × List Int) → Except Int (List Pt × List Int)
  | .error e => .error e
  | .ok (qs, t) => .ok (ps ++ qs, t)
theorem preP_app (ps qs : List Pt) (r : Except Int (List Pt × List Int)) : preP ps (preP qs r) = preP (ps ++ qs) r := by
  cases r with
  | error e => rfl
  | ok v => obtain ⟨x, t⟩ := v; simp [preP]
theorem preP_nil (r : Except Int (List Pt × List Int)) : preP [] r = r := by
  cases r with
  | error e => rfl
  | ok v => obtain ⟨x, t⟩ := v; rfl
section
variable {l : List Int} {m j : Nat} {a : Pt}
theorem pts_end (h : l.length ≤ j) : ptsS (m + 1) a (l.drop j) = .error 2 := by rw [List.drop_eq_nil_of_le h]; rfl
theorem pts_x (h : j < l.length) (hx : inm (a.x + zag l[j]) = false) : ptsS (m + 1) a (l.drop j) = .error 8 := by
  rw [List.drop_eq_getElem_cons h]
  simp only [ptsS]
  rw [if_pos hx]
theorem pts_mid (h : j < l.length) (hx : inm (a.x + zag l[j]) = true) (h2 : l.length ≤ j + 1) : ptsS (m + 1) a (l.drop j) = .error 2 := by
  rw [List.drop_eq_getElem_cons h, List.drop_eq_nil_of_le h2]
  simp only [ptsS]
  rw [if_neg (by rw [hx]; decide)]
theorem pts_y (h : j + 1 < l.length) (hx : inm (a.x + zag l[j]) = true) (hy : inm (a.y + zag l[j + 1]) = false) : ptsS (m + 1) a (l.drop j) = .error 8 := by
  rw [List.drop_eq_getElem_cons (by omega), List.drop_eq_getElem_cons h]
  simp only [ptsS]
  rw [if_neg (by rw [hx]; decide), if_pos hy]
theorem pts_go (h : j + 1 < l.length) (hx : inm (a.x + zag l[j]) = true) (hy : inm (a.y + zag l[j + 1]) = true) : ptsS (m + 1) a (l.drop j) = preP [⟨a.x + zag l[j], a.y + zag l[j + 1]⟩] (ptsS m ⟨a.x + zag l[j], a.y + zag l[j + 1]⟩ (l.drop (j + 1 + 1))) := by
  rw [List.drop_eq_getElem_cons (by omega), List.drop_eq_getElem_cons h]
  simp only [ptsS]
  rw [if_neg (by rw [hx]; decide), if_neg (by rw [hy]; decide)]
  cases ptsS m ⟨a.x + zag l[j], a.y + zag l[j + 1]⟩ (l.drop (j + 1 + 1)) with
  | error e => rfl
  | ok v => obtain ⟨x, t⟩ := v; rfl
end
theorem and_u32_7 (x : Int) (h : 0 ≤ x ∧ x ≤ 4294967295) : bits .and .u32 x 7 = x % 8 := by
  show IntKind.u32.wrap ((BitVec.ofInt 32 x &&& BitVec.ofInt 32 7).toNat : Int) = _
  obtain ⟨n, rfl⟩ := Int.eq_ofNat_of_zero_le h.1
  rw [BitVec.toNat_and, BitVec.ofInt_natCast, show BitVec.ofInt 32 7 = BitVec.ofNat 32 7 from rfl, BitVec.toNat_ofNat, BitVec.toNat_ofNat, Nat.mod_eq_of_lt (by omega), IntKind.wrap_u32, show (7 % 2 ^ 32 : Nat) = 2 ^ 3 - 1 by decide, Nat.and_two_pow_sub_one_eq_mod]
  omega

set_option maxRecDepth 100000 in
set_option maxHeartbeats 2000000 in
theorem closed_any (l : List Int) (lv : Value) (rb i : Nat) (a : Pt) (w0 w : World) (hB : RdrB w0 rb lv i a w) (hl : Rd w0 (· < w0.heap.size) 1 lv l.length (U32 l)) {R : Ending → World → Prop}
    (hS : l.length ≤ i → ∀ w', w.grownBy w' (some rb) → R (.panicked (stopE 2)) w')
    (hE : ∀ (h : i < l.length), l[i] ≠ 15 → ∀ w', w.grownBy w' (some rb) → R (.panicked (stopE 3)) w')
    (hR : ∀ (h : i < l.length), l[i] = 15 → ∀ w', RdrB w0 rb lv (i + 1) a w' → w.grownBy w' (some rb) → R (.returned (.tuple #[])) w') :
    Calls Try.prog 65 #[.pointer (some ⟨rb, 0, none⟩)] w R := by
  have HR := Lib.hid hR
  have HS := Lib.hid hS
  have HE := Lib.hid hE
  have NX := Lib.hid fun (R : Ending → World → Prop) hS hR => next_any l lv rb i a w0 w hB hl (R := R) hS hR
  clear hR hS hE hB hl
  go_enter Try.func65, Try.ntmps65
  go_wp2_with fail
  go_at_call 63
  refine NX.out _ ?_ ?_
  · intro h w' hg
    exact ⟨rfl, HS.out h w' hg⟩
  · intro h w1 hB1 hg1
    have G1 := Lib.hid hg1
    have B1 := Lib.hid hB1
    have HE1 := Lib.hid (HE.out h)
    have HR1 := Lib.hid (HR.out h)
    clear hg1 hB1 NX HR HE HS
    generalize l[i] = x at *
    by_cases hx : x = 15
    · have HR2 := Lib.hid (HR1.out hx)
      subst hx
      go_wp2
      refine bodyPost_ret (results_none rfl _ _ _) rfl ?_
      exact HR2.out _ B1.out G1.out
    · have HE2 := Lib.hid (HE1.out hx)
      have t1 : (x != 15) = true := by rw [bne_iff_ne]; exact hx
      clear hx
      go_wp2
      exact ⟨rfl, HE2.out _ G1.out⟩

theorem el_pt : Elem Try.prog 75 77 (.agg #[.int .i64 0, .int .i64 0]) 2 16 := ⟨by kernel_rfl, by kernel_rfl, rfl, by decide, by decide⟩

set_option maxRecDepth 100000 in
set_option maxHeartbeats 8000000 in
theorem points_any (k : Nat) (low high : Int) (l : List Int) (lv : Value) (rb i : Nat) (a : Pt) (w0 w : World) (hB : RdrB w0 rb lv i a w) (hl : Rd w0 (· < w0.heap.size) 1 lv l.length (U32 l)) (hu : ∀ x ∈ l, 0 ≤ x ∧ x ≤ 4294967295) (ha : Near a) (hlen : l.length ≤ 1000) {R : Ending → World → Prop}
    (hE : ∀ e, cmdS k low high a (l.drop i) = .error e → ∀ w', w.grownBy w' (some rb) → R (.panicked (stopE e)) w')
    (hR : ∀ ps j, cmdS k low high a (l.drop i) = .ok (ps, l.drop j) → j ≤ l.length → ∀ v w', RdrB w0 rb lv j (lastPt a ps) w' → w'.ownsRow w.heap.size 77 2 v ps.length (Pts ps) → w.grownBy w' (some rb) → Near (lastPt a ps) → R (.returned v) w') :
    Calls Try.prog 54 #[.pointer (some ⟨rb, 0, none⟩), .int .i64 k, .int .i64 low, .int .i64 high] w R := by
  have HR := Lib.hid hR
  have HE := Lib.hid hE
  have HU := Lib.hid hu
  have HA := Lib.hid ha
  have HB := Lib.hid hB
  have NX := Lib.hid fun (R : Ending → World → Prop) hS hR => next_any l lv rb i a w0 w hB hl (R := R) hS hR
  have CO := Lib.hid fun j b n W (h : RdrB w0 rb lv j b W) (hn : inm n = true) (R : Ending → World → Prop) hS hE hR => coord_any l lv rb j b n w0 W h hl hu hn (R := R) hS hE hR
  clear hR hE hu hB hl ha
  go_enter Try.func54, Try.ntmps54
  go_wp2_with fail
  go_at_call 63
  refine NX.out _ ?_ ?_
  · intro h w' hg
    exact ⟨rfl, HE.out 2 (by rw [List.drop_eq_nil_of_le h]; rfl) w' hg⟩
  · intro h w1 hB1 hg1
    have G1 := Lib.hid hg1
    have B1 := Lib.hid hB1
    have hx := HU.out l[i] (List.getElem_mem h)
    have CS : Hid (cmdS k low high a (l.drop i) = if l[i] % 8 ≠ k ∨ l[i] / 8 < low ∨ high < l[i] / 8 then .error 3 else ptsS (l[i] / 8).toNat a (l.drop (i + 1))) := by
      show _ = _
      rw [List.drop_eq_getElem_cons h]
      rfl
    clear hg1 hB1 NX
    have ea := and_u32_7 _ hx
    generalize l[i] = x at *
    by_cases hc : x % 8 ≠ k ∨ x / 8 < low ∨ high < x / 8
    · have CS2 : Hid (cmdS k low high a (l.drop i) = .error 3) := by have := CS.out; rw [if_pos hc] at this; exact this
      clear CS B1 CO HB
      by_cases h1 : x % 8 = k
      · have t1 : (x % 8 != (k : Int)) = false := by rw [bne_eq_false_iff_eq]; exact h1
        by_cases h2 : x / 8 < low
        · have t2 : decide (x / 8 < low) = true := decide_eq_true h2
          clear hc h1 h2
          go_wp2
          exact ⟨rfl, HE.out 3 CS2.out _ G1.out⟩
        · have t2 : decide (x / 8 < low) = false := decide_eq_false h2
          have t3 : decide (high < x / 8) = true := decide_eq_true (by omega)
          clear hc h1 h2
          go_wp2
          exact ⟨rfl, HE.out 3 CS2.out _ G1.out⟩
      · have t1 : (x % 8 != (k : Int)) = true := by rw [bne_iff_ne]; exact h1
        clear hc h1
        go_wp2
        exact ⟨rfl, HE.out 3 CS2.out _ G1.out⟩
    · have t1 : (x % 8 != (k : Int)) = false := by rw [bne_eq_false_iff_eq]; omega
      have t2 : decide (x / 8 < low) = false := decide_eq_false (by omega)
      have t3 : decide (high < x / 8) = false := decide_eq_false (by omega)
      have CS2 : Hid (cmdS k low high a (l.drop i) = ptsS (x / 8).toNat a (l.drop (i + 1))) := by have := CS.out; rw [if_neg hc] at this; exact this
      obtain ⟨n, hn⟩ : ∃ n : Nat, x / 8 = (n : Int) := ⟨(x / 8).toNat, by omega⟩
      rw [hn, Int.toNat_natCast] at CS2
      have hnb : n ≤ 536870912 := by omega
      rw [hn] at t2 t3
      clear hc CS
      go_wp2
      try simp only [hn]
      clear t1 t2 t3 hn ea hx
      have HWW := Lib.hid ((HB.out : BoxH w0 rb _ _ w).grow.size)
      go_loopw [35, 11] (fun i' s wr => ∃ (m j : Nat) (a' : Pt) (ps : List Pt), m ≤ n ∧ i' = .int .i64 m ∧ Hid (RdrB w0 rb lv j a' wr) ∧ Hid (2 * m ≤ j ∧ j ≤ l.length) ∧ Hid (wr.ownsRow w.heap.size 77 2 s m (Pts ps)) ∧ Hid (ps.length = m) ∧ Hid (a' = lastPt a ps) ∧ Hid (ptsS n a (l.drop (i + 1)) = preP ps (ptsS (n - m) a' (l.drop j))) ∧ Hid (w.grownBy wr (some rb)) ∧ Hid (s.ownBlock ≠ some rb) ∧ Hid (Near a')) (fun i' _ _ => n - (intOf i').toNat)
      case atStart => exact ⟨0, i + 1, a, [], Nat.zero_le _, rfl, B1.out, ⟨by omega, by omega⟩, World.ownsRow_nil _ _ _ _, rfl, (show a = lastPt a [] from rfl), (preP_nil _).symm, G1.out, (show (Value.slice none 0 0).ownBlock ≠ some rb from by simp [Value.ownBlock]), HA.out⟩
      case round =>
        clear B1 G1 HA HB
        obtain ⟨m, j, a', ps, hm, rfl, hB, hj, hO, hps, ha', hpt, hg, hne, hna⟩ := hrel
        by_cases hlt : m < n
        · obtain ⟨k', hk'⟩ : ∃ k', n - m = k' + 1 := ⟨n - m - 1, by omega⟩
          have hk2 : n - (m + 1) = k' := by omega
          rw [hk'] at hpt
          have hB0 : BoxH w0 rb _ _ wr := hB.out
          have b2 := hB0.cell 2
          obtain ⟨ax, ay⟩ := a'
          have HNX := Lib.hid (inm_iff.2 hna.out.1)
          have HNY := Lib.hid (inm_iff.2 hna.out.2)
          dsimp only at b2 HNX HNY
          clear hB0 hna
          go_wp2_with fail
          clear b2
          go_at_call 64
          refine CO.out j ⟨ax, ay⟩ ax wr hB.out HNX.out _ ?_ ?_ ?_
          · intro h w' hg'
            exact ⟨rfl, HE.out 2 (by rw [CS2.out, hpt.out, pts_end h]; rfl) _ (by_tr hg.out hg')⟩
          · intro h hx w' hg'
            exact ⟨rfl, HE.out 8 (by rw [CS2.out, hpt.out, pts_x h hx]; rfl) _ (by_tr hg.out hg')⟩
          · intro h hx w2 hB2 hg2
            have HX := Lib.hid hx
            have GG2 := Lib.hid (by_tr hg.out hg2)
            have OO2 := Lib.hid (hO.out.kept hg2 (.inr hne.out))
            have ZX := Lib.hid (show ax + zag l[j] = ax + zag l[j] from rfl)
            obtain ⟨X, hX⟩ : ∃ X, ax + zag l[j] = X := ⟨_, rfl⟩
            rw [hX] at hx
            rw [hX]
            have HXE := Lib.hid hX
            have HNX2 := Lib.hid hx
            have hB3 : BoxH w0 rb _ _ (w2.setCell ⟨rb, 2, none⟩ (.int .i64 X)) := (hB2 : BoxH w0 rb _ _ w2).set 2 (.int .i64 X)
            have GG3 := Lib.hid (by_tr GG2.out (by_set (Grow.refl w2) rb 2 (.int .i64 X)))
            have OO3 := Lib.hid (own_set (j := 2) (u := .int .i64 X) OO2.out hne.out)
            have B3 : Hid (RdrB w0 rb lv (j + 1) ⟨X, ay⟩ (w2.setCell ⟨rb, 2, none⟩ (.int .i64 X))) := hB3
            have c2 := (hB2 : BoxH w0 rb _ _ w2).cell 2
            have f2 := (hB2 : BoxH w0 rb _ _ w2).free 2
            have c3 := hB3.cell 3
            clear hx hX hg2 hB2 hB3 GG2 OO2 hg hO
            go_wp2_with fail
            clear c2 f2 c3
            go_at_call 64
            refine CO.out (j + 1) ⟨X, ay⟩ ay _ B3.out HNY.out _ ?_ ?_ ?_
            · intro h2 w' hg'
              exact ⟨rfl, HE.out 2 (by rw [CS2.out, hpt.out, pts_mid h HX.out h2]; rfl) _ (by_tr GG3.out hg')⟩
            · intro h2 hy w' hg'
              exact ⟨rfl, HE.out 8 (by rw [CS2.out, hpt.out, pts_y h2 HX.out hy]; rfl) _ (by_tr GG3.out hg')⟩
            · intro h2 hy w4 hB4 hg4
              have GG4 := Lib.hid (by_tr GG3.out hg4)
              have OO4 := Lib.hid (OO3.out.kept hg4 (.inr hne.out))
              have PT : Hid (ptsS n a (l.drop (i + 1)) = preP (ps ++ [⟨X, ay + zag l[j + 1]⟩]) (ptsS k' ⟨X, ay + zag l[j + 1]⟩ (l.drop (j + 1 + 1)))) := by
                show _ = _
                rw [hpt.out, pts_go h2 HX.out hy, HXE.out, preP_app]
              obtain ⟨Y, hY⟩ : ∃ Y, ay + zag l[j + 1] = Y := ⟨_, rfl⟩
              rw [hY] at hy PT
              rw [hY]
              have HNY2 := Lib.hid hy
              have hB5 : BoxH w0 rb #[lv, .int .i64 ((j + 1 + 1 : Nat) : Int), .int .i64 X, .int .i64 Y] 87 (w4.setCell ⟨rb, 3, none⟩ (.int .i64 Y)) := (hB4 : BoxH w0 rb _ _ w4).set 3 (.int .i64 Y)
              have GG5 := Lib.hid (by_tr GG4.out (by_set (Grow.refl w4) rb 3 (.int .i64 Y)))
              have OO5 := Lib.hid (own_set (j := 3) (u := .int .i64 Y) OO4.out hne.out)
              have B5 := Lib.hid hB5
              have S5 : Hid (w.heap.size ≤ (w4.setCell ⟨rb, 3, none⟩ (.int .i64 Y)).heap.size) := GG5.out.size
              have c3 := (hB4 : BoxH w0 rb _ _ w4).cell 3
              have f3 := (hB4 : BoxH w0 rb _ _ w4).free 3
              have d2 := hB5.cell 2
              have d3 := hB5.cell 3
              have H2 := Lib.hid h2
              clear hy hY hg4 hB4 hB5 GG4 OO4 GG3 OO3 B3 ZX HX HXE CO HE
              go_wp2_with (at_builtin; refine wpList_newAt rfl _ _ rfl el_pt OO5.out rfl 1 _ (size_setCell _ _ _) _ rfl (by decide) rfl (by simp [Value.oneCell']) (by have := hj.out; omega) B5.out.grow ⟨HWW.out, S5.out⟩ ?_; intro v6 w6 hown6 hg6 hgr6 hb6)
              have O6 := Lib.hid hown6
              have B6 := Lib.hid (B5.out.by_ hgr6 (fun k hk => by have := own_ge OO5.out k hk; have := HWW.out; omega) (fun e => hne.out e.symm))
              have NE6 : Hid (v6.ownBlock ≠ some rb) := ins_ne hne.out B5.out.lt hb6
              have GG6 := Lib.hid (by_app GG5.out hgr6 (fun k hk => own_ge OO5.out k hk))
              clear hown6 hg6 hgr6 hb6
              go_roundw
              case rel =>
                refine ⟨m + 1, j + 1 + 1, ⟨X, Y⟩, ps ++ [⟨X, Y⟩], by omega, by go_num, B6.out, (by have := hj.out; have := H2.out; omega : 2 * (m + 1) ≤ j + 1 + 1 ∧ j + 1 + 1 ≤ l.length), own_eq O6.out rfl (by simp [Pts, Pt.cells]), ?_, ?_, ?_, GG6.out, NE6.out, ⟨inm_iff.1 HNX2.out, inm_iff.1 HNY2.out⟩⟩
                · show _ = _
                  rw [List.length_append, hps.out]; rfl
                · exact (lastPt_snoc _ _ _).symm
                · rw [hk2]
                  exact PT.out
              case measure => simp [intOf]; omega
        · obtain rfl : m = n := by omega
          have hpt2 := hpt.out
          rw [Nat.sub_self] at hpt2
          have hlen2 := hps.out
          subst hlen2
          have ha2 := ha'.out
          subst ha2
          go_wp2
          refine HR.out ps j ?_ hj.out.2 _ _ hB.out hO.out hg.out hna.out
          rw [CS2.out, hpt2]
          simp [ptsS, preP]
end Go.Proofs.Ytehffeglgdcogaa
