import Derived.Test.YthgibnmnjoniiaaChecked
import Derived.Test.YthgibnmnjoniiaaLines
import Derived.Test.YthgibnmnjoniiaaLive26
namespace Go.Proofs.Ythgibnmnjoniiaa
open Go.RowKit Go.Lib B

theorem lines_agree (ps : List SRow) (rows : List PRow) (h : rows.map PRow.l = ps.map fun p => p.l.map Spot.round) : linesP (rows.map PRow.l) = linesN (ps.map SRow.l) := by
  rw [h]
  unfold linesP linesN
  rw [List.map_map, List.map_map]
  rfl

set_option maxRecDepth 100000 in
set_option maxHeartbeats 4000000 in
theorem normLines_walk (ps : List SRow) (a : Value) (S S' : Nat → Prop) (w : World) (ha : Rd w S 1 a ps.length (ps.map SRow.v)) (hA : ∀ r ∈ ps, r.rd w S' ∧ ∀ s ∈ r.l, s.ok)
    {R : Ending → World → Prop} (hR : ∀ w', Grow w w' → R (.returned (.bool true)) w') :
    Calls Try.prog 5 #[a] w R := by
  have HR := Lib.hid hR
  clear hR
  have ha := ha.lt (by decide)
  have HA0 := Lib.hid ha
  have HA := Lib.hid hA
  clear hA
  obtain ⟨_, A, c, rfl, h1, h2, h3, h4⟩ := ha
  unfold maxLen at h2
  by_cases hl : ps.length ≤ 20
  · have t1 : decide (20 < (ps.length : Int)) = false := by simp; omega
    go_enter Try.func5, Try.ntmps5
    go_wp2
    clear t1
    go_loopw [4, 3] (fun i s wr => ∃ (k m : Nat) (rows : List PRow), k ≤ ps.length ∧ i = .int .i64 k ∧ m = k ∧ Hid (m = rows.length) ∧ wr.ownsRow w.heap.size 22 1 s m (rows.map PRow.v) ∧ Hid (RowsIn wr s rows) ∧ Hid (rows.map PRow.l = (ps.take k).map fun p => p.l.map Spot.round) ∧ Hid (∀ p ∈ ps.take k, p.l.length ≤ 60) ∧ Hid (Grow w wr)) (fun i _ _ => ps.length - (intOf i).toNat)
    case atStart => exact ⟨0, 0, [], Nat.zero_le _, rfl, rfl, rfl, World.ownsRow_nil _ _ _ _, fun r hr => by simp at hr, rfl, fun p hp => by simp at hp, Grow.refl _⟩
    case round =>
      obtain ⟨k, m, rows, hk, rfl, hmk, hm, hown, hin, hls, hsh, hg⟩ := hrel
      subst hmk
      by_cases hlt : m < ps.length
      · obtain ⟨b, o, rfl, -, -⟩ := h4 (by omega)
        have C1 : Hid (∀ W, Grow w W → W.cell? ⟨b, o + m, none⟩ = some (ps[m]'hlt).v) := fun W hW => by
          have := rd_cell hW HA0.out rfl (i := m) (by simpa using hlt)
          rw [List.getElem_map] at this
          exact this
        have r1 := HA.out (ps[m]'hlt) (List.getElem_mem hlt)
        have LS : Hid ((ps.take (m + 1)).map (fun p => p.l.map Spot.round) = ((ps.take m).map fun p => p.l.map Spot.round) ++ [(ps[m]'hlt).l.map Spot.round]) := by
          show _ = _
          rw [List.take_succ_eq_append_getElem hlt, List.map_append]; rfl
        have SH : Hid ((ps[m]'hlt).l.length ≤ 60 → ∀ p ∈ ps.take (m + 1), p.l.length ≤ 60) := by
          intro h p hp
          rw [List.take_succ_eq_append_getElem hlt] at hp
          rcases List.mem_append.1 hp with hp | hp
          · exact hsh.out p hp
          · rw [List.mem_singleton.1 hp]; exact h
        have HO := Lib.hid hown
        clear h3 h4 hown
        generalize ps[m]'hlt = p at *
        obtain ⟨v, l⟩ := p
        dsimp only at *
        obtain ⟨r1, hl2⟩ := r1
        have HL2 := Lib.hid hl2
        clear hl2
        unfold SRow.rd at r1
        dsimp only at r1
        have r2 := Lib.hid (r1.gr (by decide) hg.out)
        obtain ⟨_, V, cv, rfl, x1, x2, x3, -⟩ := r1
        unfold maxLen at x2
        have c1 := C1.out _ hg.out
        by_cases hl6 : l.length ≤ 60
        · have t2 : decide (60 < (l.length : Int)) = false := by simp; omega
          have SH2 := Lib.hid (SH.out hl6)
          go_wp2_with fail
          clear c1 t2
          refine rround_any l _ _ wr r2.out HL2.out (by omega) ?_
          intro q1 w1 hown1 hg1
          have G1 := Lib.hid (hg.out.tr hg1)
          have HO1 := Lib.hid (own_grow HO.out hg1)
          have IN1 := Lib.hid (hin.out.grow hg1)
          have NEW : Hid (PRow.rd w1 (Ins u3) ⟨q1, l.map Spot.round⟩) := RowsIn.new HO.out hown1 (by simp)
          clear HO r2 hg1
          obtain ⟨_, A2, c2, rfl, y1, y2, y3, -⟩ := Rd.own hown1
          clear hown1
          go_wp2_with (at_builtin; refine wpList_new rfl _ _ rfl el_row HO1.out rfl 1 _ rfl (by decide) rfl (by simp [Value.oneCell']) (by omega) G1.out ⟨Nat.le_refl _, G1.out.size⟩ ?_; intro v1 w4 hown4 hg4 hgr4 hb4; have HG4 := Lib.hid hg4; have HO4 := Lib.hid hown4; have IN4 := Lib.hid (IN1.out.app NEW.out hgr4 hb4); clear hg4 hgr4 hb4 hown4)
          go_roundw
          case rel => exact ⟨m + 1, m + 1, rows ++ [PRow.mk (.slice A2 l.length c2) (l.map Spot.round)], by omega, by go_num, rfl, by rw [List.length_append, ← hm.out]; rfl, by rw [List.map_append]; exact HO4.out, IN4.out, by rw [LS.out, List.map_append, hls.out]; rfl, SH2.out, HG4.out⟩
          case measure => simp [intOf]; omega
        · have t2 : decide (60 < (l.length : Int)) = true := by simp; omega
          go_wp2_with (go_at_call 18; refine live26_any _ ?_; intro w1 hg1)
          exact HR.out _ (hg.out.tr hg1)
      · obtain rfl : m = ps.length := by omega
        have hls2 := hls.out
        have hsh2 := hsh.out
        rw [List.take_length] at hls2 hsh2
        have HLS := Lib.hid hls2
        have HSH := Lib.hid hsh2
        have HOI := Lib.hid hown
        clear hls2 hsh2 hls hsh hown
        go_wp2_with fail
        refine nlines_any ps _ _ _ wr (HA0.out.gr (by decide) hg.out) (fun r hr => ⟨(HA.out r hr).1.gr2 (by decide) hg.out, by have := HSH.out r hr; omega, (HA.out r hr).2⟩) (by omega) ?_
        intro r1 rows1 w1 hown1 hin1 hrl1 hg1
        have G1 := Lib.hid (hg.out.tr hg1)
        have O1 := Lib.hid hown1
        have I1 := Lib.hid hin1
        have L1 := Lib.hid hrl1
        have OI := Lib.hid (own_grow HOI.out hg1)
        have IN := Lib.hid (hin.out.grow hg1)
        clear hown1 hin1 hrl1 hg1 hin HOI
        have hlen : ∀ r ∈ rows, r.l.length ≤ 1000 := by
          intro r hr
          have : r.l ∈ rows.map PRow.l := List.mem_map_of_mem hr
          rw [HLS.out] at this
          obtain ⟨p, hp, hpl⟩ := List.mem_map.1 this
          rw [← hpl, List.length_map]
          have := HSH.out p hp
          omega
        have HLEN := Lib.hid hlen
        clear hlen
        go_wp2_with fail
        refine rlines_any rows _ _ _ w1 (by have := Rd.own OI.out; rw [hm.out] at this; exact this) (fun r hr => ⟨IN.out r hr, HLEN.out r hr⟩) (by rw [← hm.out]; omega) ?_
        intro r2 rows2 w2 hown2 hin2 hrl2 hg2
        have G2 := Lib.hid (G1.out.tr hg2)
        have O1 := Lib.hid (own_grow O1.out hg2)
        have I1 := Lib.hid (I1.out.grow hg2)
        have OI := Lib.hid (own_grow OI.out hg2)
        have IN := Lib.hid (IN.out.grow hg2)
        have O2 := Lib.hid hown2
        have I2 := Lib.hid hin2
        have heq : rows1.map PRow.l = rows2.map PRow.l := by
          rw [L1.out, hrl2]
          exact (lines_agree ps rows HLS.out).symm
        have HEQ := Lib.hid heq
        clear hown2 hin2 hrl2 hg2 heq
        go_wp2_with fail
        refine rsame9_any r1 r2 rows1 rows2 _ _ _ _ w2 (Rd.own O1.out) I1.out (Rd.own O2.out) I2.out ?_
        intro w3 hg3
        rw [decide_eq_true HEQ.out]
        have G3 := Lib.hid (G2.out.tr hg3)
        have OI := Lib.hid (own_grow OI.out hg3)
        have IN := Lib.hid (IN.out.grow hg3)
        clear hg3
        obtain ⟨_, A9, c9, hv9, z1, z2, -, z4⟩ := Rd.own OI.out
        subst hv9
        unfold maxLen at z2
        go_wp2
        go_loopw [5] (fun i wz => ∃ (j : Nat), j ≤ ps.length ∧ i = .int .i64 j ∧ Hid (Grow w3 wz)) (fun i _ => ps.length - (intOf i).toNat)
        case atStart => exact ⟨0, Nat.zero_le _, rfl, Grow.refl _⟩
        case round =>
          obtain ⟨j, hj, rfl, hgz⟩ := hrel
          by_cases hjl : j < ps.length
          · obtain ⟨b, o, rfl, -, -⟩ := h4 (by omega)
            obtain ⟨g, o9, rfl, -, -⟩ := z4 (by omega)
            have hjr : j < rows.length := by rw [← hm.out]; exact hjl
            have C1 : wr.cell? ⟨b, o + j, none⟩ = some (ps[j]'hjl).v := by
              have := rd_cell (G3.out.tr hgz.out) HA0.out rfl (i := j) (by simpa using hjl)
              rw [List.getElem_map] at this
              exact this
            have C2 : Hid (∀ W, Grow w3 W → W.cell? ⟨g, o9 + j, none⟩ = some (rows[j]'hjr).v) := fun W hW => by
              have := rd_cell hW (Rd.own OI.out) rfl (i := j) (by simpa using hjr)
              rw [List.getElem_map] at this
              exact this
            have hrj : (rows[j]'hjr).l = (ps[j]'hjl).l.map Spot.round := by
              have : (rows.map PRow.l)[j]? = (ps.map fun p => p.l.map Spot.round)[j]? := by rw [HLS.out]
              simpa [hjl, hjr] using this
            have p1 := HA.out (ps[j]'hjl) (List.getElem_mem hjl)
            have p2 := IN.out (rows[j]'hjr) (List.getElem_mem hjr)
            have p3 := HSH.out (ps[j]'hjl) (List.getElem_mem hjl)
            clear h3 h4 z4
            generalize ps[j]'hjl = p at *
            generalize rows[j]'hjr = q at *
            obtain ⟨v, l⟩ := p
            obtain ⟨u, l'⟩ := q
            dsimp only at hrj C1 p1 p3
            subst hrj
            obtain ⟨p1, hl2⟩ := p1
            have HL2 := Lib.hid hl2
            clear hl2
            unfold SRow.rd at p1
            unfold PRow.rd at p2
            dsimp only at p1 p2 C2
            have R1 := Lib.hid (p1.gr (by decide) (G3.out.tr hgz.out))
            have R2 := Lib.hid p2
            clear p1 p2
            have HGZ := Lib.hid hgz.out
            clear hgz
            go_wp2_with fail
            have TAIL : Hid (∀ (W : World), Grow w3 W → ∀ (R : Ending → World → Prop), (∀ r w', w'.ownsRow W.heap.size 24 2 r (simple (l.map Spot.round) true).length (Pts (simple (l.map Spot.round) true)) → Grow W w' → R (.returned r) w') →
                Calls Try.prog 29 #[u, .bool true] W R) := fun W hW R hR => rsimple_any (l.map Spot.round) true u _ W (R2.out.gr2 (by decide) hW) (by simp; omega) hR
            refine ring_any l v _ wr R1.out HL2.out (by omega) (fun h3 r w4 hown4 hg4 => ?_) (fun h3 w4 hg4 => ?_)
            · have t3 : decide (2 < ((simple (l.map Spot.round) true).length : Int)) = true := by simp; omega
              have G4 := Lib.hid (HGZ.out.tr hg4)
              have O4 := Lib.hid hown4
              have C3 := C2.out _ G4.out
              clear C1 hg4 hown4 h3 R1 R2
              generalize simple (l.map Spot.round) true = L at *
              obtain ⟨_, A4, c4, rfl, y1, y2, y3, -⟩ := Rd.own O4.out
              unfold maxLen at y2
              go_wp2_with fail
              refine TAIL.out _ G4.out _ ?_
              intro r5 w5 hown5 hg5
              have G5 := Lib.hid (G4.out.tr hg5)
              have O4 := Lib.hid (own_grow O4.out hg5)
              have O5 := Lib.hid hown5
              clear C3 hg5 hown5
              obtain ⟨_, A5, c5, rfl, y4, y5, y6, -⟩ := Rd.own O5.out
              unfold maxLen at y5
              go_wp2_with fail
              refine samePts_any _ _ L L _ _ w5 (Rd.own O4.out) (Rd.own O5.out) ?_
              intro w6 hg6
              have G6 := Lib.hid (G5.out.tr hg6)
              clear hg6
              go_wp2
              go_roundw
              case rel => exact ⟨j + 1, by omega, by go_num, G6.out⟩
              case measure => simp [intOf]; omega
            · have t3 : decide (2 < ((simple (l.map Spot.round) true).length : Int)) = false := by simp; omega
              have G4 := Lib.hid (HGZ.out.tr hg4)
              have C3 := C2.out _ G4.out
              clear C1 hg4 h3 R1 R2
              generalize simple (l.map Spot.round) true = L at *
              go_wp2_with fail
              refine TAIL.out _ G4.out _ ?_
              intro r5 w5 hown5 hg5
              have G5 := Lib.hid (G4.out.tr hg5)
              have O5 := Lib.hid hown5
              clear C3 hg5 hown5
              obtain ⟨_, A5, c5, rfl, y4, y5, y6, -⟩ := Rd.own O5.out
              unfold maxLen at y5
              go_wp2
              go_roundw
              case rel => exact ⟨j + 1, by omega, by go_num, G5.out⟩
              case measure => simp [intOf]; omega
          · have : j = ps.length := by omega
            subst this
            go_wp2_with (go_at_call 18; refine live26_any _ ?_; intro w4 hg4)
            exact HR.out _ ((G3.out.tr hgz.out).tr hg4)
  · have t1 : decide (20 < (ps.length : Int)) = true := by simp; omega
    go_enter Try.func5, Try.ntmps5
    go_wp2_with (go_at_call 18; refine live26_any _ ?_; intro w1 hg1)
    exact HR.out _ hg1
end Go.Proofs.Ythgibnmnjoniiaa
