import Derived.Test.YtfdjdfobhkmlpaaChecked
import Derived.Test.YtfdjdfobhkmlpaaCore
import Derived.Test.YtfdjdfobhkmlpaaNorm
import Derived.Test.YtfdjdfobhkmlpaaSRowD
import Derived.Test.YtfdjdfobhkmlpaaSimp
import Derived.Test.YtfdjdfobhkmlpaaRNorm
import Derived.Test.YtfdjdfobhkmlpaaRSimp
import Derived.Test.YtfdjdfobhkmlpaaPRows
import Derived.Test.YtfdjdfobhkmlpaaRowsOwn
namespace Go.Proofs.Ytfdjdfobhkmlpaa
open Go.RowKit Go.Lib B

def SRow.rd (w : World) (S : Nat → Prop) (r : SRow) : Prop := Rd w S 6 r.v r.l.length (Spots r.l)
def linesN (parts : List (List Spot)) : List (List Pt) := (parts.map fun p => simple (p.map Spot.round) false).filter fun l => decide (2 ≤ l.length)
def linesP (parts : List (List Pt)) : List (List Pt) := (parts.map fun p => simple p false).filter fun l => decide (2 ≤ l.length)
theorem linesN_succ {ps : List SRow} {k : Nat} (hk : k < ps.length) : linesN ((ps.take (k + 1)).map SRow.l) = linesN ((ps.take k).map SRow.l) ++ (if 2 ≤ (simple (ps[k].l.map Spot.round) false).length then [simple (ps[k].l.map Spot.round) false] else []) := by
  unfold linesN
  rw [List.take_succ_eq_append_getElem hk, List.map_append, List.map_append, List.filter_append]
  congr 1
  simp [List.filter_cons]
theorem linesP_succ {ps : List PRow} {k : Nat} (hk : k < ps.length) : linesP ((ps.take (k + 1)).map PRow.l) = linesP ((ps.take k).map PRow.l) ++ (if 2 ≤ (simple ps[k].l false).length then [simple ps[k].l false] else []) := by
  unfold linesP
  rw [List.take_succ_eq_append_getElem hk, List.map_append, List.map_append, List.filter_append]
  congr 1
  simp [List.filter_cons]

theorem el_row : Elem Try.prog 23 33 (.slice none 0 0) 1 24 := ⟨by kernel_rfl, by kernel_rfl, rfl, by decide, by decide⟩

set_option maxRecDepth 100000 in
set_option maxHeartbeats 4000000 in
theorem nlines_any (ps : List SRow) (a : Value) (S S' : Nat → Prop) (w : World) (ha : Rd w S 1 a ps.length (ps.map SRow.v)) (hA : ∀ r ∈ ps, r.rd w S' ∧ r.l.length ≤ 1000 ∧ ∀ s ∈ r.l, s.ok) (hl : ps.length ≤ 1000) {R : Ending → World → Prop}
    (hR : ∀ r rows w', w'.ownsRow w.heap.size 33 1 r rows.length (rows.map PRow.v) → RowsIn w' r rows → rows.map PRow.l = linesN (ps.map SRow.l) → Grow w w' → R (.returned r) w') :
    Calls Try.prog 39 #[a] w R := by
  have HR := Lib.hid hR
  clear hR
  have ha := ha.lt (by decide)
  have HA0 := Lib.hid ha
  have HA := Lib.hid hA
  clear hA
  obtain ⟨_, A, c, rfl, h1, h2, h3, h4⟩ := ha
  unfold maxLen at h2
  go_enter Try.func39, Try.ntmps39
  go_wp2
  go_loopw [9, 3] (fun i s wr => ∃ (k m : Nat) (rows : List PRow), k ≤ ps.length ∧ i = .int .i64 k ∧ m ≤ k ∧ Hid (m = rows.length) ∧ wr.ownsRow w.heap.size 33 1 s m (rows.map PRow.v) ∧ Hid (RowsIn wr s rows) ∧ Hid (rows.map PRow.l = linesN ((ps.take k).map SRow.l)) ∧ Hid (Grow w wr)) (fun i _ _ => ps.length - (Go.RowKit.intOf i).toNat)
  case atStart => exact ⟨0, 0, [], Nat.zero_le _, rfl, Nat.le_refl _, rfl, World.ownsRow_nil _ _ _ _, fun r hr => by simp at hr, rfl, Grow.refl _⟩
  case round =>
    obtain ⟨k, m, rows, hk, rfl, hmk, hm, hown, hin, hls, hg⟩ := hrel
    by_cases hlt : k < ps.length
    · obtain ⟨b, o, rfl, -, -⟩ := h4 (by omega)
      have c1 : wr.cell? ⟨b, o + k, none⟩ = some (ps[k]'hlt).v := by
        have := rd_cell hg.out HA0.out rfl (i := k) (by simpa using hlt)
        rw [List.getElem_map] at this
        exact this
      have r1 := HA.out (ps[k]'hlt) (List.getElem_mem hlt)
      have LS := Lib.hid (linesN_succ hlt)
      have HO := Lib.hid hown
      clear h3 h4 hown
      generalize ps[k]'hlt = p at *
      obtain ⟨v, l⟩ := p
      dsimp only at *
      obtain ⟨r1, hl1, hl2⟩ := r1
      have HL2 := Lib.hid hl2
      clear hl2
      unfold SRow.rd at r1
      dsimp only at r1
      have r1 := Lib.hid (r1.gr (by decide) hg.out)
      go_wp2_with fail
      clear c1
      refine nround_any l v _ wr r1.out HL2.out (by omega) ?_
      intro q1 w1 hown1 hg1
      have G1 := Lib.hid (hg.out.tr hg1)
      have O1 := Lib.hid hown1
      have HO1 := Lib.hid (own_grow HO.out hg1)
      have IN1 := Lib.hid (hin.out.grow hg1)
      clear hown1 hg1 HO
      go_wp2_with fail
      refine simple_any (l.map Spot.round) false q1 _ w1 (by have := Rd.own O1.out; rw [List.length_map]; exact this) (by simp; omega) ?_
      intro q2 w2 hown2 hg2
      have G2 := Lib.hid (G1.out.tr hg2)
      have HO2 := Lib.hid (own_grow HO1.out hg2)
      have IN2 := Lib.hid (IN1.out.grow hg2)
      have NEW : Hid (PRow.rd w2 (Ins u3) ⟨q2, simple (l.map Spot.round) false⟩) := RowsIn.new HO1.out hown2
      clear HO1 O1 IN1 G1 r1
      generalize simple (l.map Spot.round) false = L at *
      obtain ⟨_, A2, c2, rfl, x1, x2, x3, -⟩ := Rd.own hown2
      unfold maxLen at x2
      clear hg2 hown2
      by_cases h2 : 2 ≤ L.length
      · have LS2 : Hid (linesN ((ps.take (k + 1)).map SRow.l) = linesN ((ps.take k).map SRow.l) ++ [L]) := by have := LS.out; rw [if_pos h2] at this; exact this
        go_wp2_with (at_builtin; refine wpList_new rfl _ _ rfl el_row HO2.out rfl 1 _ rfl (by decide) rfl (by simp [Value.oneCell']) (by omega) G2.out ⟨Nat.le_refl _, G2.out.size⟩ ?_; intro v1 w4 hown4 hg4 hgr4 hb4; have HG4 := Lib.hid hg4; have HO4 := Lib.hid hown4; have IN4 := Lib.hid (IN2.out.app NEW.out hgr4 hb4); clear hg4 hgr4 hb4 hown4)
        go_roundw
        case rel => exact ⟨k + 1, m + 1, rows ++ [PRow.mk (.slice A2 L.length c2) L], by omega, by go_num, by omega, by rw [List.length_append, ← hm.out]; rfl, by rw [List.map_append]; exact HO4.out, IN4.out, by rw [LS2.out, List.map_append, hls.out]; rfl, HG4.out⟩
        case measure => simp [Go.RowKit.intOf]; omega
      · have LS2 : Hid (linesN ((ps.take (k + 1)).map SRow.l) = linesN ((ps.take k).map SRow.l)) := by have := LS.out; rw [if_neg h2, List.append_nil] at this; exact this
        go_wp2
        go_roundw
        case rel => exact ⟨k + 1, m, rows, by omega, by go_num, by omega, hm.out, HO2.out, IN2.out, by rw [LS2.out]; exact hls.out, G2.out⟩
        case measure => simp [Go.RowKit.intOf]; omega
    · obtain rfl : k = ps.length := by omega
      have hm' := hm.out
      subst hm'
      go_wp2
      refine HR.out _ rows _ hown hin.out ?_ hg.out
      rw [hls.out, List.take_length]

set_option maxRecDepth 100000 in
set_option maxHeartbeats 1000000 in
theorem ring_any (l : List Spot) (v : Value) (S : Nat → Prop) (w : World) (hb : Rd w S 6 v l.length (Spots l)) (hok : ∀ s ∈ l, s.ok) (hl : l.length ≤ 1000) {R : Ending → World → Prop}
    (hY : 3 ≤ (simple (l.map Spot.round) true).length → ∀ r w', w'.ownsRow w.heap.size 36 2 r (simple (l.map Spot.round) true).length (Pts (simple (l.map Spot.round) true)) → Grow w w' → R (.returned (.tuple #[r, .bool true])) w')
    (hN : ¬ 3 ≤ (simple (l.map Spot.round) true).length → ∀ w', Grow w w' → R (.returned (.tuple #[.slice none 0 0, .bool false])) w') :
    Calls Try.prog 41 #[v] w R := by
  have HY := Lib.hid hY
  have HN := Lib.hid hN
  clear hY hN
  have HB := Lib.hid hb
  have HK := Lib.hid hok
  clear hb hok
  go_enter Try.func41, Try.ntmps41
  go_wp2_with fail
  refine nround_any l v _ w HB.out HK.out hl ?_
  intro q1 w1 hown1 hg1
  have G1 := Lib.hid hg1
  have O1 := Lib.hid hown1
  clear hown1 hg1
  go_wp2_with fail
  refine simple_any (l.map Spot.round) true q1 _ w1 (by have := Rd.own O1.out; rw [List.length_map]; exact this) (by simp; omega) ?_
  intro q2 w2 hown2 hg2
  have G2 := Lib.hid (G1.out.tr hg2)
  have O2 := Lib.hid (own_base hown2 G1.out.size)
  clear O1 G1 hg2
  generalize simple (l.map Spot.round) true = L at *
  obtain ⟨_, A2, c2, rfl, x1, x2, x3, -⟩ := Rd.own hown2
  clear hown2
  by_cases h3 : 3 ≤ L.length
  · go_wp2
    exact HY.out h3 _ _ O2.out G2.out
  · go_wp2
    exact HN.out h3 _ G2.out
end Go.Proofs.Ytfdjdfobhkmlpaa
