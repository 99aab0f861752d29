import Derived.Test.YtfdjdfobhkmlpaaGreatRfA
import Derived.Test.YtfdjdfobhkmlpaaGreatOvR
import Derived.Test.YtfdjdfobhkmlpaaGreatRGroups
import Derived.Test.YtfdjdfobhkmlpaaGreatOvW
namespace Go.Proofs.YtfdjdfobhkmlpaaGreat
set_option maxRecDepth 100000
open Go.RowKit Go.Lib B
set_option maxHeartbeats 4000000 in
theorem rlinesN_any (ps : List PRow) (a : Value) (S S' : Nat -> Prop) (w : World) (ha : Rd w S 1 a ps.length (ps.map PRow.v)) (hA : ∀ r ∈ ps, r.rd w S' /\ r.l.length <= 1000) (hl : ps.length <= 1000) {R : Ending -> World -> Prop}
  (hR : ∀ r rows w', w'.ownsRow w.heap.size 37 1 r rows.length (rows.map PRow.v) -> RowsN w.heap.size w' r rows -> rows.map PRow.l = linesP (ps.map PRow.l) -> Grow w w' -> R (.returned r) w') :
  Calls Tryz.prog 25 #[a] w R := by
 have HR := Lh hR; clear hR; have ha := ha.lt (by decide); have HA0 := Lh ha; have HA := Lh hA; clear hA; obtain ⟨_, A, c, rfl, h1, h2, h3, h4⟩ := ha; unfold maxLen at h2; go_enter Tryz.func25, Tryz.ntmps25
 go_wp2
 go_loopw [4, 3] (fun i s wr => ∃ (k m : Nat) (rows : List PRow), k <= ps.length /\ i = .int .i64 k /\ m <= k /\ Hid (m = rows.length) /\ wr.ownsRow w.heap.size 37 1 s m (rows.map PRow.v) /\ Hid (RowsN w.heap.size wr s rows) /\ Hid (rows.map PRow.l = linesP ((ps.take k).map PRow.l)) /\ Hid (Grow w wr)) (fun i _ _ => ps.length - (Go.RowKit.intOf i).toNat)
 case atStart => exact ⟨0, 0, [], Nat.zero_le _, rfl, Nat.le_refl _, rfl, World.ownsRow_nil _ _ _ _, fun r hr => by simp at hr, rfl, Grow.refl _⟩
 case round =>
  obtain ⟨k, m, rows, hk, rfl, hmk, hm, hown, hin, hls, hg⟩ := hrel
  by_cases hlt : k < ps.length
  ·obtain ⟨b, o, rfl, -, -⟩ := h4 (by omega)
   have c1 : wr.cell? ⟨b, o + k, none⟩ = some (ps[k]'hlt).v := by
    have := rd_cell hg.out HA0.out rfl (i := k) (by simpa using hlt); rw [List.getElem_map] at this; exact this
   have r1 := HA.out (ps[k]'hlt) (List.getElem_mem hlt); have LS := Lh (linesP_succ hlt); have HO := Lh hown; clear h3 h4 hown; generalize ps[k]'hlt = p at *; obtain ⟨v, l⟩ := p; dsimp only at *; obtain ⟨r1, hl1⟩ := r1; unfold PRow.rd at r1; dsimp only at r1; have r1 := Lh (r1.gr (by decide) hg.out); go_wp2_with fail
   clear c1; refine rsimple_any l false v _ wr r1.out (by omega) ?_; intro q2 w2 hown2 hg2; have G2 := Lh (hg.out.tr hg2); have HO2 := Lh (own_grow HO.out hg2); have IN2 := Lh (hin.out.grow hg2)
   have NEW : Hid (RowsN w.heap.size w2 u3 [⟨q2, simple l false⟩]) := fun r hr => by
    rw [List.mem_singleton.1 hr]
    refine (Rd.own_from hown2).into fun b hb => ⟨?_, by have := hg.out.size; omega⟩
    intro e; have := (HO.out.lt b e.symm).2; omega
   clear HO r1; generalize simple l false = L at *; obtain ⟨_, A2, c2, rfl, x1, x2, x3, -⟩ := Rd.own hown2; unfold maxLen at x2; clear hg2 hown2
   by_cases h2 : 2 <= L.length
   ·have LS2 : Hid (linesP ((ps.take (k + 1)).map PRow.l) = linesP ((ps.take k).map PRow.l) ++ [L]) := by have := LS.out; rw [if_pos h2] at this; exact this
    go_wp2_with (at_builtin; refine wpList_new rfl _ _ rfl el_row HO2.out rfl 1 _ rfl (by decide) rfl (by simp [Value.oneCell']) (by omega) G2.out ⟨Nat.le_refl _, G2.out.size⟩ ?_; intro v1 w4 hown4 hg4 hgr4 hb4; have HG4 := Lh hg4; have HO4 := Lh hown4; have IN4 := Lh (IN2.out.app NEW.out hgr4 hb4 (Nat.le_succ _)); clear hg4 hgr4 hb4 hown4)
    go_roundw
    case rel => exact ⟨k + 1, m + 1, rows ++ [PRow.mk (.slice A2 L.length c2) L], by omega, by go_num, by omega, by rw [List.length_append, <- hm.out]; rfl, by rw [List.map_append]; exact HO4.out, IN4.out, by rw [LS2.out, List.map_append, hls.out]; rfl, HG4.out⟩
    case measure => simp [Go.RowKit.intOf]; omega
   ·have LS2 : Hid (linesP ((ps.take (k + 1)).map PRow.l) = linesP ((ps.take k).map PRow.l)) := by have := LS.out; rw [if_neg h2, List.append_nil] at this; exact this
    go_wp2; go_roundw
    case rel => exact ⟨k + 1, m, rows, by omega, by go_num, by omega, hm.out, HO2.out, IN2.out, by rw [LS2.out]; exact hls.out, G2.out⟩
    case measure => simp [Go.RowKit.intOf]; omega
  ·obtain rfl : k = ps.length := by omega
   have hm' := hm.out; subst hm'; go_wp2; refine HR.out _ rows _ hown hin.out ?_ hg.out; rw [hls.out, List.take_length]
theorem round_rnd {f : Fr} (h : f.right = true) : f.round = rndQ f.val := by
 have a := fun n => (round_iff h n).symm.trans (rnd_iff f.val n)
 have h1 := (a f.round).1 (Int.le_refl _); have h2 := (a (rndQ f.val)).2 (Int.le_refl _); omega
theorem spot_rnd {s : Spot} (h : s.rt) : s.round = rndP s.pq := by
 unfold Spot.round rndP Spot.pq; rw [round_rnd h.1, round_rnd h.2]
theorem spots_rnd {l : List Spot} (h : ∀ s ∈ l, s.rt) : l.map Spot.round = (l.map Spot.pq).map rndP := by
 rw [List.map_map]; exact List.map_congr_left fun s hs => spot_rnd (h s hs)
theorem scl_line {z : Zm} {e : Int} {l : List Pt} (hz : zright z e = true) (hb : ∀ p ∈ l, (-1048576 <= p.x /\ p.x <= 1048576) /\ -1048576 <= p.y /\ p.y <= 1048576) : lineE (l.map (scl z e)) (-z.b) (e + z.b) = 0 := by
 obtain ⟨h1, h2, -, -, h5, h6, -⟩ := zright_iff hz
 have hf : ∀ p ∈ l.map (scl z e), p.far = false := by
  intro p hp; obtain ⟨q, hq, rfl⟩ := List.mem_map.1 hp; exact scl_far hz (hb q hq).1 (hb q hq).2
 refine lineE_zero.2 ⟨by omega, ?_, ?_, hf⟩
 ·unfold inw; rw [decide_eq_true (show -4503599627370496 <= -z.b by omega), decide_eq_true (show -z.b <= 4503599627370496 by omega)]; rfl
 ·unfold inw; rw [decide_eq_true (show -4503599627370496 <= e + z.b by omega), decide_eq_true (show e + z.b <= 4503599627370496 by omega)]; rfl
theorem ringL_q {z : Zm} {e : Int} {l : List Pt} (hz : zright z e = true) (hb : ∀ p ∈ l, (-1048576 <= p.x /\ p.x <= 1048576) /\ -1048576 <= p.y /\ p.y <= 1048576) : ringL z e l = simple ((clip25Q (l.map (scl z e)) (-z.b) (e + z.b)).map rndP) true := by
 have he := scl_line hz hb; obtain ⟨e1, e2⟩ := ring_law he; unfold ringL ringR; rw [if_pos he, spots_rnd e2, e1]
theorem clip25Q_len (l : List Pt) (lo hi : Int) : (clip25Q l lo hi).length <= 16 * l.length := by
 unfold clip25Q; have h1 := halfQ_len lo false true (l.map Pt.pq); have h2 := halfQ_len hi false false (halfQ lo false true (l.map Pt.pq)); have h3 := halfQ_len lo true true (halfQ hi false false (halfQ lo false true (l.map Pt.pq))); have h4 := halfQ_len hi true false (halfQ lo true true (halfQ hi false false (halfQ lo false true (l.map Pt.pq)))); rw [List.length_map] at h1; omega
theorem lineL_q {z : Zm} {e : Int} {l : List Pt} (hz : zright z e = true) (hb : ∀ p ∈ l, (-1048576 <= p.x /\ p.x <= 1048576) /\ -1048576 <= p.y /\ p.y <= 1048576) : lineL z e l = linesP ((clipQ (l.map (scl z e)) (-z.b) (e + z.b)).map (List.map rndP)) := by
 have he := scl_line hz hb; obtain ⟨e1, e2⟩ := clip_law he; unfold lineL linesN linesP; rw [<- e1, List.map_map, List.map_map]; congr 1
 refine List.map_congr_left fun part hp => ?_
 show simple (part.map Spot.round) false = simple ((part.map Spot.pq).map rndP) false; rw [spots_rnd (e2 part hp)]
end Go.Proofs.YtfdjdfobhkmlpaaGreat
