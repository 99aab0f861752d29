/-
  How much the laws of tiles ask at most: the reference's Much.
-/
import Derived.Test.YtjalimkajcjapaaDoorChecked
import Derived.Test.YtjalimkajcjapaaDoorTSame
import Derived.Test.YtjalimkajcjapaaDoorPLaws2
import Derived.Deep.Cut
namespace Go.Proofs.YtjalimkajcjapaaDoor
open Go.RowKit B

/-- strings that fit into a memory -/
def Rch (L : List LyR) : Prop := ∀ x ∈ L, x.nm.size ≤ 140737488355328 ∧ ∀ f ∈ x.F, ∀ a ∈ f.B, a.key.size ≤ 140737488355328 ∧ a.val.t.size ≤ 140737488355328
def SmF (m : Nat) (f : FtR) : Prop := totL f.A ≤ 300 ∧ f.B.length ≤ 20 ∧ ∀ a ∈ f.B, a.key.size ≤ m ∧ a.val.t.size ≤ m
def SmL (x : LyR) : Prop := x.nm.size ≤ 1500 ∧ x.F.length ≤ 30 ∧ ∀ f ∈ x.F, SmF 1500 f
/-- no more than the laws ask -/
def Small (L : List LyR) : Prop := L.length ≤ 10 ∧ ∀ x ∈ L, SmL x
theorem SmF.mono {m n : Nat} {f : FtR} (h : SmF m f) (hm : m ≤ n) : SmF n f := ⟨h.1, h.2.1, fun a ha => ⟨Nat.le_trans (h.2.2 a ha).1 hm, Nat.le_trans (h.2.2 a ha).2 hm⟩⟩
theorem all_one {α : Type} {p : α → Prop} {l : List α} {k : Nat} (hk : k < l.length) (h : ∀ x ∈ l.take k, p x) (h1 : p l[k]) : ∀ x ∈ l.take (k + 1), p x := by
  intro x hx
  rw [List.take_succ_eq_append_getElem hk] at hx
  rcases List.mem_append.1 hx with hx | hx
  · exact h x hx
  · rw [List.mem_singleton.1 hx]; exact h1

set_option maxRecDepth 100000 in
set_option maxHeartbeats 8000000 in
theorem muchT_any (lv : Value) (L : List LyR) (S : Nat → Prop) (w : World) (hl : LysRd w S lv L) (hok : ∀ x ∈ L, x.ok) (hr : Rch L) {R : Ending → World → Prop}
    (hT : ∀ w', Grow w w' → R (.returned (.bool true)) w') (hF : Small L → ∀ w', Grow w w' → R (.returned (.bool false)) w') :
    Calls Tryd.prog 4 #[lv] w R := by
  have HT := Lib.hid hT
  have HF := Lib.hid hF
  have OK := Lib.hid hok
  have HRC := Lib.hid hr
  obtain ⟨hv, hx⟩ := hl
  have HX := Lib.hid hx
  clear hT hF hok hr hx
  have hv := hv.lt (by decide)
  obtain ⟨_, A, c, rfl, h1, h2, h3, h4⟩ := hv
  unfold maxLen at h2
  go_enter Tryd.func4, Tryd.ntmps4
  go_wp2
  go_loopw [4, 3] (fun i s wr => ∃ (k m : Nat), k ≤ L.length ∧ i = .int .i64 k ∧ s = .int .i64 m ∧ m ≤ 1500 ∧ Hid (∀ x ∈ L.take k, SmL x) ∧ Hid (Grow w wr)) (fun i _ _ => L.length - (intOf i).toNat)
  case atStart => exact ⟨0, 0, Nat.zero_le _, rfl, rfl, by omega, (by show ∀ x ∈ _, _; simp), Grow.refl _⟩
  case round =>
    obtain ⟨k, m, hk, rfl, rfl, hm, ha, hg⟩ := hrel
    by_cases hlt : k < L.length
    · by_cases h12 : k < 12
      · obtain ⟨b1, o1, rfl, hb1, hc1⟩ := h4 (by omega)
        have e1 := fun W (h : Grow w W) => flat_cells LyR.cells_len h hb1 hc1 hlt
        have RX := HX.out L[k] (List.getElem_mem hlt)
        have CX := HRC.out L[k] (List.getElem_mem hlt)
        have OX := OK.out L[k] (List.getElem_mem hlt)
        have STEP : Hid (SmL L[k] → ∀ x ∈ L.take (k + 1), SmL x) := fun h => all_one hlt ha.out h
        clear hc1 h4 h3 ha
        generalize L[k] = x at *
        obtain ⟨xn, xe, xv, xF⟩ := x
        obtain ⟨r1, r2⟩ := RX
        obtain ⟨cx1, cx2⟩ := CX
        have OF := Lib.hid OX.ft
        dsimp only at r1 r2 cx1 cx2 OF
        have RF := Lib.hid r2
        have CF := Lib.hid cx2
        have r1 := r1.lt (by decide)
        obtain ⟨_, Y, cy, rfl, y1, y2, y3, y4⟩ := r1
        unfold maxLen at y2
        have E1 : Hid (∀ W, Grow w W → W.cell? ⟨b1, o1 + k * 3, none⟩ = some (.string xn) ∧ W.cell? ⟨b1, o1 + k * 3 + 2, none⟩ = some (.slice Y xF.length cy)) := fun W h => ⟨e1 W h 0 _ rfl, e1 W h 2 _ rfl⟩
        clear e1 OX r2 cx2
        have d0 := (E1.out wr hg.out).1
        go_upto_region 6 with fail
        clear d0
        go_wp2
        go_loopw [5, 3] (fun i s wr => ∃ (j n : Nat), j ≤ xF.length ∧ j ≤ 40 ∧ i = .int .i64 j ∧ s = .int .i64 n ∧ n ≤ 140737488356828 + j * 5629499534213160 ∧ Hid (xn.size ≤ n) ∧ Hid (∀ f ∈ xF.take j, SmF n f) ∧ Hid (Grow w wr)) (fun i _ _ => xF.length - (intOf i).toNat)
        case atStart => exact ⟨0, m + xn.size, Nat.zero_le _, by omega, rfl, by go_num, by omega, (by show _ ≤ _; omega), (by show ∀ f ∈ _, _; simp), hg.out⟩
        case round =>
          clear hg
          obtain ⟨j, n, hj, hj40, rfl, rfl, hn, hxn, hfs, hg⟩ := hrel
          have d2 := (E1.out wr hg.out).2
          by_cases hjl : j < xF.length
          · by_cases hjf : j < 40
            · obtain ⟨b2, o2, rfl, hb2, hc2⟩ := y4 (by omega)
              have e2 := flat_cells FtR.cells_len hg.out hb2 hc2 hjl
              have RJ := RF.out xF[j] (List.getElem_mem hjl)
              have CJ := CF.out xF[j] (List.getElem_mem hjl)
              have OJ := OF.out xF[j] (List.getElem_mem hjl)
              have ST2 : Hid (∀ n', n ≤ n' → SmF n' xF[j] → ∀ f ∈ xF.take (j + 1), SmF n' f) := fun n' hnn h => all_one hjl (fun f hf => (hfs.out f hf).mono hnn) h
              clear hc2 y4 y3 hfs
              generalize xF[j] = y at *
              obtain ⟨X1, X2, X3, X4, X5, X6, hx1, hx2⟩ := RJ.fm
              obtain ⟨⟨yh, yi, yt, yp, yv⟩, yA, yB⟩ := y
              dsimp only at hx1 hx2
              subst hx1 hx2
              obtain ⟨q1, q2, q3⟩ := RJ
              dsimp only at q1 q2 q3 CJ
              have CB := Lib.hid CJ
              have PM := Lib.hid fun W (hg : Grow w W) (R : Ending → World → Prop) h1 h2 => much2_any _ yA _ _ W (q1.gr2 (by decide) hg) (fun r hr => (q2 r hr).gr2 (by decide) hg) OJ.pts (R := R) h1 h2
              have q3 := q3.lt (by decide)
              obtain ⟨_, Z, cz, hz, z1, z2, z3, z4⟩ := q3
              injection hz with hz1 hz2 hz3
              subst hz1 hz2 hz3
              unfold maxLen at z2
              have u0 := e2 0 _ rfl
              have u1 := e2 1 _ rfl
              have u2 := e2 2 _ rfl
              have u3 := e2 3 _ rfl
              have u4 := e2 4 _ rfl
              simp only [Nat.add_zero] at u0
              clear e2 OJ CJ q1 q2
              go_upto_region 10 with fail
              have BF := Lib.hid ((BoxH.laid #[.bool yh, .int .u64 yi, .int .i64 yt, .slice X1 X2 X3, .slice X4 yB.length X6] 41 (Grow.refl wr)).base hg.out)
              clear u0 u1 u2 u3 u4 d2 hg
              generalize wr.alloc (.cells #[.bool yh, .int .u64 yi, .int .i64 yt, .slice X1 X2 X3, .slice X4 yB.length X6] 41) = wp at *
              generalize wr.heap.size = bp at *
              have u3 := BF.out.cell 3
              go_wp2_with fail
              go_at_call 13
              refine PM.out _ BF.out.grow _ ?_ ?_
              · intro w5 hg5
                have FIN := Lib.hid (HT.out _ (BF.out.grow.tr hg5))
                clear hg5 HT HF PM
                go_wp2
                exact FIN.out
              · intro htot w5 hg5
                have BG := Lib.hid (BF.out.tr hg5)
                clear hg5 PM BF u3
                have u4 := BG.out.cell 4
                by_cases h20 : 20 < yB.length
                · have t1 : decide (20 < (yB.length : Int)) = true := decide_eq_true (by omega)
                  have t2 : decide (20 < yB.length) = true := decide_eq_true (by omega)
                  have FIN := Lib.hid (HT.out _ BG.out.grow)
                  clear HT HF
                  go_wp2
                  exact FIN.out
                · have t1 : decide (20 < (yB.length : Int)) = false := decide_eq_false (by omega)
                  have t2 : decide (20 < yB.length) = false := decide_eq_false (by omega)
                  go_wp2
                  clear t1 t2 u4
                  go_loopw [7, 3] (fun i s wr => ∃ (p q : Nat), p ≤ yB.length ∧ i = .int .i64 p ∧ s = .int .i64 q ∧ q ≤ n + p * 281474976710658 ∧ n ≤ q ∧ Hid (∀ a ∈ yB.take p, a.key.size ≤ q ∧ a.val.t.size ≤ q) ∧ Hid (BoxH w bp #[.bool yh, .int .u64 yi, .int .i64 yt, .slice X1 X2 X3, .slice X4 yB.length X6] 41 wr)) (fun i _ _ => yB.length - (intOf i).toNat)
                  case atStart => exact ⟨0, n, Nat.zero_le _, rfl, rfl, by omega, Nat.le_refl _, (by show ∀ a ∈ _, _; simp), BG.out⟩
                  case round =>
                    clear BG
                    obtain ⟨p, q, hp, rfl, rfl, hq1, hq2, hat, hB⟩ := hrel
                    have u4 := hB.out.cell 4
                    by_cases hpl : p < yB.length
                    · obtain ⟨b3, o3, rfl, hb3, hc3⟩ := z4 (by omega)
                      have e3 := flat_cells Atr.cells_len hB.out.grow hb3 hc3 hpl
                      obtain ⟨ck1, ck2⟩ := CB.out yB[p] (List.getElem_mem hpl)
                      have ST3 : Hid (∀ q', q ≤ q' → yB[p].key.size ≤ q' → yB[p].val.t.size ≤ q' → ∀ a ∈ yB.take (p + 1), a.key.size ≤ q' ∧ a.val.t.size ≤ q') := fun q' hqq h1 h2 => all_one hpl (fun a ha => ⟨Nat.le_trans (hat.out a ha).1 hqq, Nat.le_trans (hat.out a ha).2 hqq⟩) ⟨h1, h2⟩
                      clear hc3 z4 z3 hat
                      generalize yB[p] = y at *
                      have v0 := e3 0 _ rfl
                      have v2 := e3 2 _ rfl
                      simp only [Nat.add_zero] at v0
                      clear e3
                      go_wp2
                      go_quiet (fail)
                      go_wp2
                      go_roundw
                      case rel => exact ⟨p + 1, q + 2 + y.key.size + y.val.t.size, by omega, by go_num, by go_num, by omega, by omega, (by show ∀ a ∈ _, _; exact ST3.out _ (by omega) (by omega) (by omega)), hB.out.tr ((Grow.refl _).dn _)⟩
                      case measure => simp [intOf]; omega
                    · obtain rfl : p = yB.length := by omega
                      rw [List.take_length] at hat
                      have S4 := Lib.hid (ST2.out q hq2 ⟨htot, by show yB.length ≤ 20; omega, hat.out⟩)
                      have X4 : Hid (xn.size ≤ q) := Nat.le_trans hxn.out hq2
                      clear hat ST2 htot
                      go_wp2
                      go_roundw
                      case rel => exact ⟨j + 1, q, by omega, by omega, by go_num, rfl, by omega, X4.out, S4.out, hB.out.grow⟩
                      case measure => simp [intOf]; omega
            · have t1 : decide ((j : Int) < 40) = false := by simp; omega
              have t2 : decide (j < 40) = false := by simp; omega
              have t3 : decide (30 < (xF.length : Int)) = true := decide_eq_true (by omega)
              have t4 : decide (30 < xF.length) = true := decide_eq_true (by omega)
              have FIN := Lib.hid (HT.out _ hg.out)
              clear HT HF
              go_wp2
              all_goals exact FIN.out
          · obtain rfl : j = xF.length := by omega
            rw [List.take_length] at hfs
            by_cases h15 : 1500 < n
            · have t1 : decide (1500 < (n : Int)) = true := decide_eq_true (by omega)
              have t2 : decide (1500 < n) = true := decide_eq_true (by omega)
              have FIN := Lib.hid (HT.out _ hg.out)
              clear HT HF
              go_wp2
              all_goals exact FIN.out
            · have t1 : decide (1500 < (n : Int)) = false := decide_eq_false (by omega)
              have t2 : decide (1500 < n) = false := decide_eq_false (by omega)
              by_cases h30 : 30 < xF.length
              · have t3 : decide (30 < (xF.length : Int)) = true := decide_eq_true (by omega)
                have t4 : decide (30 < xF.length) = true := decide_eq_true (by omega)
                have FIN := Lib.hid (HT.out _ hg.out)
                clear HT HF
                go_wp2
                all_goals exact FIN.out
              · have t3 : decide (30 < (xF.length : Int)) = false := decide_eq_false (by omega)
                have t4 : decide (30 < xF.length) = false := decide_eq_false (by omega)
                have S5 := Lib.hid (STEP.out ⟨Nat.le_trans hxn.out (by omega), by show xF.length ≤ 30; omega, fun f hf => (hfs.out f hf).mono (by omega)⟩)
                clear STEP hfs hxn
                go_wp2
                go_roundw
                case rel => exact ⟨k + 1, n, by omega, by go_num, rfl, by omega, S5.out, hg.out⟩
                case measure => simp [intOf]; omega
      · have t40 : decide ((k : Int) < 12) = false := by simp; omega
        have t42 : decide (k < 12) = false := by simp; omega
        have t41 : decide (10 < (L.length : Int)) = true := decide_eq_true (by omega)
        have t43 : decide (10 < L.length) = true := decide_eq_true (by omega)
        go_wp2
        exact HT.out _ hg.out
    · obtain rfl : k = L.length := by omega
      rw [List.take_length] at ha
      by_cases h10 : 10 < L.length
      · have t41 : decide (10 < (L.length : Int)) = true := decide_eq_true (by omega)
        have t43 : decide (10 < L.length) = true := decide_eq_true (by omega)
        go_wp2
        exact HT.out _ hg.out
      · have t41 : decide (10 < (L.length : Int)) = false := decide_eq_false (by omega)
        have t43 : decide (10 < L.length) = false := decide_eq_false (by omega)
        have HF2 := Lib.hid (HF.out ⟨by omega, ha.out⟩)
        go_wp2
        exact HF2.out _ hg.out
end Go.Proofs.YtjalimkajcjapaaDoor
