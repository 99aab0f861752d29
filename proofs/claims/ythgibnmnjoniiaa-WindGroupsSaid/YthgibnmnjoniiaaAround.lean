import Derived.Test.YthgibnmnjoniiaaWind3
namespace Go.Proofs.Ythgibnmnjoniiaa
open Go.RowKit Go.Shelf
attribute [local go_sem] Oper.semAt_some

theorem grow_keeps {B : Nat} {W W' : World} (hg : Grow W W') : KeepsFrom B W W' :=
  KeepsFrom.of_grownBy (row := none) ⟨hg.os, hg.tape, hg.output, hg.size, fun k hk _ => hg.block k hk⟩ (fun j e => by cases e)
theorem grow_kpE {n₀ Bn : Nat} {W W' : World} (hg : Grow W W') (hn : n₀ ≤ W.heap.size) (hB : Bn < W.heap.size) : KpE n₀ Bn W W' := ⟨hg.mono hn, hg.block Bn hB⟩
theorem grow_blk {W W' : World} (hg : Grow W W') {B : Nat} {o : Obj} (h : W.heap[B]? = some o) : W'.heap[B]? = some o := (hg.block B (lt_of_block h)).trans h
theorem touch_side {p : Pt} {x : Pt × Pt} (h : touch p x = true) : sideI x.1 x.2 p = 0 := by
  simp only [touch, Bool.and_eq_true, decide_eq_true_eq] at h; exact h.1

theorem al3 (w : World) (o1 o2 o3 : Obj) : (((w.alloc o1).alloc o2).alloc o3).heap[w.heap.size]? = some o1 ∧ (((w.alloc o1).alloc o2).alloc o3).heap[w.heap.size + 1]? = some o2 ∧ (((w.alloc o1).alloc o2).alloc o3).heap[w.heap.size + 2]? = some o3 := by
  refine ⟨blk_al (blk_al (heap_alloc_new _ _) _) _, blk_al ?_ _, ?_⟩
  · have := heap_alloc_new (w.alloc o1) o2
    rw [World.size_alloc] at this
    exact this
  · have := heap_alloc_new ((w.alloc o1).alloc o2) o3
    rw [World.size_alloc, World.size_alloc] at this
    exact this

/-- what a round of Around keeps -/
def AroI (p : Pt) (w : World) (n0 : Nat) (pre : List PP) (W : World) : Prop :=
  (∀ x ∈ pre, touch p x.1 = false) ∧ W.heap[w.heap.size + 1]? = some (.cells #[.int .i64 (sumP (delta p) (pre.map (fun x : PP => x.1)))] 3 (0, 0)) ∧ W.heap[w.heap.size]? = some (.cells p.cells.toArray 24 (0, 0)) ∧
  W.heap[w.heap.size + 2]? = some (.cells #[.bool false] 4 (0, 0)) ∧ Below w.heap.size w W ∧ n0 ≤ W.heap.size
def AroX (p : Pt) (w : World) (c : Code) (pre : List PP) (W : World) : Prop :=
  c = .ret ∧ (∃ x ∈ pre, touch p x.1 = true) ∧ W.heap[w.heap.size + 1]? = some (.cells #[.int .i64 0] 3 (0, 0)) ∧
  W.heap[w.heap.size + 2]? = some (.cells #[.bool false] 4 (0, 0)) ∧ Below w.heap.size w W

set_option maxRecDepth 100000 in
set_option maxHeartbeats 4000000 in
theorem around_in (l : List Pt) (p : Pt) (v : Value) (S : Nat → Prop) (w : World) (hb : Rd w S 2 v l.length (Pts l)) (hr : rightL l = true) (hp : p.inr = true) :
    CallsIn Fence.wide 8 Try.prog 16 #[v, .agg p.cells.toArray] w fun e W' => e = .returned (.tuple #[.int .i64 (arN l p), .bool (arB l p)]) ∧ Grow w W' := by
  have hlen : l.length ≤ 262144 := by simp [rightL] at hr; exact hr.1
  have hir : ∀ q ∈ l, q.inr = true := by
    intro q hq
    simp only [rightL, Bool.and_eq_true, List.all_eq_true] at hr
    exact hr.2 q hq
  have hin : ∀ p ∈ l, p.x ≤ 2097152 ∧ -2097152 ≤ p.x ∧ p.y ≤ 2097152 ∧ -2097152 ≤ p.y := by
    intro q hq
    have := Pt.inr_iff.1 (hir q hq)
    omega
  have HB := Lib.hid (hb.lt (by decide))
  have HIN := Lib.hid hin
  have HPR := Lib.hid hp
  have HAN : Hid (arN l p = (if (edgesL l).any (touch p) = true then 0 else sumP (delta p) (edgesL l)) ∧ arB l p = !(edgesL l).any (touch p)) := by
    simp [Hid, arN, arB, hr, hp]
  have HW := Lib.hid fun W (h : Grow w W) (R : Ending → World → Prop) hR => wright_any l v _ W ((hb.lt (by decide)).gr2 (by decide) h) (R := R) hR
  have HO := Lib.hid fun W (R : Ending → World → Prop) hR => wout_any p W (R := R) hR
  have HS := Lib.hid fun (x : Pt × Pt) W (ha : x.1.inr = true) (hb : x.2.inr = true) (R : Ending → World → Prop) hR => side_any x.1 x.2 p W ha hb hp (R := R) hR
  have HN := Lib.hid fun (x : Pt × Pt) W (R : Ending → World → Prop) hR => on_any x.1 x.2 p W (R := R) hR
  rw [hr] at HW
  rw [hp] at HO
  have hpp := Pt.inr_iff.1 hp
  clear hr hin hp hir hb
  obtain ⟨_, A, c, rfl, k1, k2, -, -⟩ := HB.out
  obtain ⟨p1, p2⟩ := p
  dsimp only at hpp
  unfold Pt.cells at HO HS HN ⊢
  dsimp only at HO HS HN ⊢
  refine callsIn_of_wp_marks Try.func16 rfl trivial ?_ rfl
  simp only [Try.ntmps16, List.size_toArray, List.length_cons, List.length_nil, Nat.reduceAdd, Nat.reduceSub, Array.replicate_succ, Array.replicate_zero, List.push_toArray, List.append_toArray, List.nil_append, List.cons_append]
  gi_wp2_with fail
  have GA : Grow w (((w.alloc (.cells #[.int .i64 p1, .int .i64 p2] 24)).alloc (.cells #[.int .i64 0] 3)).alloc (.cells #[.bool false] 4)) := (((Grow.refl w).al _).al _).al _
  have q1 : (((w.alloc (.cells #[.int .i64 p1, .int .i64 p2] 24)).alloc (.cells #[.int .i64 0] 3)).alloc (.cells #[.bool false] 4)).heap[w.heap.size]? = some (.cells #[.int .i64 p1, .int .i64 p2] 24 (0, 0)) := blk_al (blk_al (heap_alloc_new _ _) _) _
  have q2 : (((w.alloc (.cells #[.int .i64 p1, .int .i64 p2] 24)).alloc (.cells #[.int .i64 0] 3)).alloc (.cells #[.bool false] 4)).heap[w.heap.size + 1]? = some (.cells #[.int .i64 0] 3 (0, 0)) := by
    refine blk_al ?_ _
    have := heap_alloc_new (w.alloc (.cells #[.int .i64 p1, .int .i64 p2] 24)) (.cells #[.int .i64 0] 3)
    rw [World.size_alloc] at this
    exact this
  have q3 : (((w.alloc (.cells #[.int .i64 p1, .int .i64 p2] 24)).alloc (.cells #[.int .i64 0] 3)).alloc (.cells #[.bool false] 4)).heap[w.heap.size + 2]? = some (.cells #[.bool false] 4 (0, 0)) := by
    have := heap_alloc_new ((w.alloc (.cells #[.int .i64 p1, .int .i64 p2] 24)).alloc (.cells #[.int .i64 0] 3)) (.cells #[.bool false] 4)
    rw [World.size_alloc, World.size_alloc] at this
    exact this
  refine ⟨trivial, callsIn_wide.2 (HW.out _ GA _ ?_)⟩
  intro w1 hg1
  have cp1 := cell_of_row w1 w.heap.size 0 _ _ (0, 0) (grow_blk hg1 q1)
  have cp2 := cell_of_row w1 w.heap.size 1 _ _ (0, 0) (grow_blk hg1 q1)
  have Q1 := Lib.hid q1
  have Q2 := Lib.hid q2
  have Q3 := Lib.hid q3
  have G1 := Lib.hid hg1
  have GA := Lib.hid GA
  clear hg1 q1 q2 q3
  gi_wp2_with fail
  refine ⟨trivial, callsIn_wide.2 (HO.out _ _ ?_)⟩
  intro w2 hg2
  have G2 := Lib.hid (G1.out.tr hg2)
  clear hg2 cp1 cp2
  gi_wp2_with fail
  refine ⟨trivial, callsIn_wide.2 (edges_any _ _ _ _ ?_)⟩
  have r1 := blk_al (grow_blk G2.out Q1.out) (.cells #[.slice A l.length c] 22)
  have r2 := blk_al (grow_blk G2.out Q2.out) (.cells #[.slice A l.length c] 22)
  have r3 := blk_al (grow_blk G2.out Q3.out) (.cells #[.slice A l.length c] 22)
  have r4 := heap_alloc_new w2 (.cells #[.slice A l.length c] 22)
  have hG : Grow w (w2.alloc (.cells #[.slice A l.length c] 22)) := (GA.out.tr G2.out).al _
  have hws : w.heap.size + 3 ≤ w2.heap.size := by have := G2.out.size; simpa [World.size_alloc] using this
  have hs : (w2.alloc (.cells #[.slice A l.length c] 22)).heap.size = w2.heap.size + 1 := by simp [World.size_alloc]
  have hL : Rd (w2.alloc (.cells #[.slice A l.length c] 22)) (· < w.heap.size) 2 (.slice A l.length c) l.length (Pts l) := HB.out.gr2 (by decide) hG
  clear Q1 Q2 Q3 G1 G2 GA
  gi_wp2
  generalize w2.alloc (.cells #[.slice A l.length c] 22) = W0 at *
  refine wpIn_rangeFunc_ownH rfl (by decide) (gf := 101) (lb := #[.pointer (some ⟨w2.heap.size, 0, none⟩)]) rfl trivial (enters_of Try.func101 (by kernel_rfl) rfl)
    (edges_stops _ w2.heap.size w.heap.size (.slice A l.length c) l W0 r4 hL hG.size HIN.out) KpE.tr (KpE.put hG.size (by omega)) (Below.refl _ _) (fun _ => rfl)
    (AroI ⟨p1, p2⟩ w W0.heap.size)
    (AroX ⟨p1, p2⟩ w)
    (fun s X Y row ⟨h1, h2, h3, h4, h5, h6⟩ hg hr => ⟨h1, blk_own _ (fun (_ : Unit) => _) () X Y row h2 hg hr, blk_own _ (fun (_ : Unit) => _) () X Y row h3 hg hr, blk_own _ (fun (_ : Unit) => _) () X Y row h4 hg hr, ownFrom_below (β := Unit) (Nat.le_refl _) (by omega) () X Y row h5 hg hr, Nat.le_trans h6 hg.size⟩)
    (fun c s X Y row ⟨h1, h2, h3, h4, h5⟩ hg hr => ⟨h1, h2, blk_own _ (fun (_ : Unit) => _) () X Y row h3 hg hr, blk_own _ (fun (_ : Unit) => _) () X Y row h4 hg hr, ownFrom_below (β := Unit) (Nat.le_refl _) (by omega) () X Y row h5 hg hr⟩)
    ⟨by simp, r2, r1, r3, hG, Nat.le_refl _⟩
    (fun x a' W => ∃ B1 B2, w2.heap.size < B1 ∧ w2.heap.size < B2 ∧ Two B1 B2 x.1 W ∧ a' = { tmps := #[.slice A l.length c, .agg #[.int .i64 p1, .int .i64 p2], undef, .pointer (some ⟨w.heap.size, 0, none⟩), .pointer (some ⟨w.heap.size + 1, 0, none⟩), .pointer (some ⟨w.heap.size + 2, 0, none⟩), .pointer (some ⟨B1, 0, none⟩), .pointer (some ⟨B2, 0, none⟩), undef, .slice A l.length c, .bool true, .bool false, .bool false, .agg #[.int .i64 p1, .int .i64 p2], .bool false, .bool false, .slice A l.length c, .func (.func 101) #[] #[.pointer (some ⟨w2.heap.size, 0, none⟩)], .agg x.1.1.cells.toArray, .agg x.1.2.cells.toArray, undef, undef, undef, undef, undef, undef, undef, undef, undef, undef, undef, undef, undef, undef, undef, undef, undef, undef, undef, undef, undef, undef, undef, undef, undef, undef, undef, undef, undef, undef, undef, undef, undef, undef, undef, undef, undef, undef, undef, undef, undef, undef, undef, undef, undef, undef, undef, undef, undef, undef, undef, undef], defers := [] })
    ?hAx ?assign ?body ?done ?stop
  case hAx =>
    intro x a' s X Y row hs hg hr
    obtain ⟨B1, B2, h1, h2, ⟨h3, h4⟩, h5⟩ := hs
    exact ⟨B1, B2, h1, h2, ⟨blk_own _ (fun (_ : Unit) => x.1.1.cells.toArray) () X Y row h3 hg hr, blk_own _ (fun (_ : Unit) => x.1.2.cells.toArray) () X Y row h4 hg hr⟩, h5⟩
  case assign =>
    rintro lY pre ⟨⟨⟨x1, x2⟩, ⟨y1, y2⟩⟩, hx⟩ W K ⟨hT, hS, hP, hF, hGW, hZ⟩ hK
    have HK := Lib.hid hK
    clear hK
    have hI' : Hid (AroI ⟨p1, p2⟩ w W0.heap.size pre W) := ⟨hT, hS, hP, hF, hGW, hZ⟩
    clear hS hT hP hF r1 r2 r3 r4
    unfold encP encPP Pt.cells
    gi_wp2
    have hh : ∀ k o, W.heap[k]? = some o → ((W.alloc (.cells #[.int .i64 x1, .int .i64 x2] 24)).alloc (.cells #[.int .i64 y1, .int .i64 y2] 24)).heap[k]? = some o := fun k o h => blk_al (blk_al h _) _
    obtain ⟨i1, i2, i3, i4, i5, i6⟩ := hI'.out
    refine HK.out _ _ (((KeepsOthers.alloc _ _).trans (KeepsOthers.alloc _ _)).from _) ⟨((Below.refl _ W).alloc hGW.size _).alloc (by simp; have := hGW.size; omega) _, ?_⟩ ⟨i1, hh _ _ i2, hh _ _ i3, hh _ _ i4, (hGW.alloc hGW.size _).alloc (by simp; have := hGW.size; omega) _, by simp; omega⟩ ⟨W.heap.size, W.heap.size + 1, by omega, by omega, ⟨blk_al (heap_alloc_new _ _) _, ?_⟩, rfl⟩
    · rw [hh _ _ (Array.getElem?_eq_getElem (show w2.heap.size < W.heap.size by omega)), Array.getElem?_eq_getElem]
    · have := heap_alloc_new (W.alloc (.cells #[.int .i64 x1, .int .i64 x2] 24)) (.cells #[.int .i64 y1, .int .i64 y2] 24)
      rw [World.size_alloc] at this
      exact this
  case body =>
    rintro lY pre ⟨⟨⟨x1, x2⟩, ⟨y1, y2⟩⟩, hx⟩ a' W hl _ ⟨hT, hS, hP, hF, hGW, hZ⟩ ⟨B1, B2, hb1, hb2, ⟨hT1, hT2⟩, rfl⟩ hlt
    have bd := sumP_bd1 (delta ⟨p1, p2⟩) (delta_bd _) (pre.map (fun x : PP => x.1))
    rw [List.length_map] at bd
    have SN : Hid (∀ d, delta ⟨p1, p2⟩ (⟨x1, x2⟩, ⟨y1, y2⟩) = d → sumP (delta ⟨p1, p2⟩) (pre.map (fun x : PP => x.1) ++ [(⟨x1, x2⟩, ⟨y1, y2⟩)]) = sumP (delta ⟨p1, p2⟩) (pre.map (fun x : PP => x.1)) + d) := by
      rintro d rfl; exact sumP_snoc _ _ _
    have HX := Lib.hid hx
    have HSx := Lib.hid (fun W => HS.out (⟨x1, x2⟩, ⟨y1, y2⟩) W (Pt.inr_iff.2 (by dsimp only at hx ⊢; omega)) (Pt.inr_iff.2 (by dsimp only at hx ⊢; omega)))
    have HNx := Lib.hid (fun W => HN.out (⟨x1, x2⟩, ⟨y1, y2⟩) W)
    have TE : Hid (touch ⟨p1, p2⟩ (⟨x1, x2⟩, ⟨y1, y2⟩) = (decide (sideI ⟨x1, x2⟩ ⟨y1, y2⟩ ⟨p1, p2⟩ = 0) && onB ⟨x1, x2⟩ ⟨y1, y2⟩ ⟨p1, p2⟩)) := rfl
    have DE : Hid (delta ⟨p1, p2⟩ (⟨x1, x2⟩, ⟨y1, y2⟩) = if (decide (x2 ≤ p2) && decide (p2 < y2) && decide (0 < sideI ⟨x1, x2⟩ ⟨y1, y2⟩ ⟨p1, p2⟩)) = true then 1 else if (decide (p2 < x2) && decide (y2 ≤ p2) && decide (sideI ⟨x1, x2⟩ ⟨y1, y2⟩ ⟨p1, p2⟩ < 0)) = true then -1 else 0) := rfl
    unfold Pt.cells at hT1 hT2 hP
    dsimp only at HSx HNx hT1 hT2 hP
    clear HS HN HW HO HB HIN
    have HT := Lib.hid hT
    have HIF : Hid (∀ W', Grow W W' → ∀ d W'', (W'' = W' ∧ d = 0) ∨ W'' = W'.setCell ⟨w.heap.size + 1, 0, none⟩ (.int .i64 (sumP (delta ⟨p1, p2⟩) (pre.map (fun x : PP => x.1)) + d)) → delta ⟨p1, p2⟩ (⟨x1, x2⟩, ⟨y1, y2⟩) = d → touch ⟨p1, p2⟩ (⟨x1, x2⟩, ⟨y1, y2⟩) = false →
        KeepsFrom W0.heap.size W W'' ∧ KpE w.heap.size w2.heap.size W W'' ∧ AroI ⟨p1, p2⟩ w W0.heap.size (pre ++ [⟨(⟨x1, x2⟩, ⟨y1, y2⟩), HX.out⟩]) W'') := by
      intro W' hg d W'' hW hd ht
      have a1 := grow_blk hg hS
      have a2 := grow_blk hg hP
      have a3 := grow_blk hg hF
      have hsz := hg.size
      have hT' : ∀ x ∈ pre ++ [(⟨(⟨x1, x2⟩, ⟨y1, y2⟩), HX.out⟩ : PP)], touch ⟨p1, p2⟩ x.1 = false := by
        intro x hx
        rcases List.mem_append.1 hx with h | h
        · exact HT.out x h
        · rw [List.mem_singleton.1 h]; exact ht
      have hGW' : Below w.heap.size w W' := hGW.trans (hg.mono hGW.size)
      have hsn := SN.out d hd
      rcases hW with ⟨rfl, rfl⟩ | rfl
      · refine ⟨grow_keeps hg, grow_kpE hg hGW.size (by omega), hT', ?_, a2, a3, hGW', by omega⟩
        rw [List.map_append]
        show _ = some (Obj.cells #[.int .i64 (sumP (delta ⟨p1, p2⟩) (pre.map (fun x : PP => x.1) ++ [(⟨x1, x2⟩, ⟨y1, y2⟩)]))] 3 (0, 0))
        rw [hsn, a1, Int.add_zero]
      · refine ⟨(grow_keeps hg).trans ((KeepsOthers.setCell _ _ _).from _), ⟨(hg.mono hGW.size).setCell (p := ⟨w.heap.size + 1, 0, none⟩) (by show _ ≤ w.heap.size + 1; omega) _, ?_⟩, hT', ?_, blk_ne a2 (by omega) _ _, blk_ne a3 (by omega) _ _, hGW'.setCell (p := ⟨w.heap.size + 1, 0, none⟩) (by show _ ≤ w.heap.size + 1; omega) _, by rw [size_setCell]; omega⟩
        · rw [← hg.block w2.heap.size (by omega)]
          have hne : w.heap.size + 1 ≠ w2.heap.size := by omega
          simp [World.setCell, Array.getElem?_modify, hne]
        · rw [List.map_append]
          show _ = some (Obj.cells #[.int .i64 (sumP (delta ⟨p1, p2⟩) (pre.map (fun x : PP => x.1) ++ [(⟨x1, x2⟩, ⟨y1, y2⟩)]))] 3 (0, 0))
          rw [hsn]
          exact blk_set a1 0 _
    have HXF : Hid (∀ W', Grow W W' → touch ⟨p1, p2⟩ (⟨x1, x2⟩, ⟨y1, y2⟩) = true →
        KeepsFrom W0.heap.size W ((W'.setCell ⟨w.heap.size + 1, 0, none⟩ (.int .i64 0)).setCell ⟨w.heap.size + 2, 0, none⟩ (.bool false)) ∧ AroX ⟨p1, p2⟩ w .ret (pre ++ [⟨(⟨x1, x2⟩, ⟨y1, y2⟩), HX.out⟩]) ((W'.setCell ⟨w.heap.size + 1, 0, none⟩ (.int .i64 0)).setCell ⟨w.heap.size + 2, 0, none⟩ (.bool false))) := by
      intro W' hg ht
      have a1 := grow_blk hg hS
      have a3 := grow_blk hg hF
      have hGW' : Below w.heap.size w W' := hGW.trans (hg.mono hGW.size)
      refine ⟨(grow_keeps hg).trans (((KeepsOthers.setCell _ _ _).from _).trans ((KeepsOthers.setCell _ _ _).from _)), rfl, ⟨_, List.mem_append.2 (.inr (List.mem_singleton.2 rfl)), ht⟩, ?_, ?_, ?_⟩
      · exact blk_ne (blk_set a1 0 _) (by omega) _ _
      · exact blk_set (blk_ne a3 (by omega) _ _) 0 _
      · exact (hGW'.setCell (p := ⟨w.heap.size + 1, 0, none⟩) (by show _ ≤ w.heap.size + 1; omega) _).setCell (p := ⟨w.heap.size + 2, 0, none⟩) (by show _ ≤ w.heap.size + 2; omega) _
    have F1 : Hid (∀ W', Grow W W' → W'.heap[B1]? = some (.cells #[.int .i64 x1, .int .i64 x2] 24 (0, 0)) ∧ W'.heap[B2]? = some (.cells #[.int .i64 y1, .int .i64 y2] 24 (0, 0)) ∧
      W'.heap[w.heap.size]? = some (.cells #[.int .i64 p1, .int .i64 p2] 24 (0, 0)) ∧ W'.heap[w.heap.size + 1]? = some (.cells #[.int .i64 (sumP (delta ⟨p1, p2⟩) (pre.map (fun x : PP => x.1)))] 3 (0, 0)) ∧ W'.heap[w.heap.size + 2]? = some (.cells #[.bool false] 4 (0, 0))) :=
      fun W' hg => ⟨grow_blk hg hT1, grow_blk hg hT2, grow_blk hg hP, grow_blk hg hS, grow_blk hg hF⟩
    clear SN hT hS hP hF hT1 hT2 HT r1 r2 r3 r4 hs
    generalize hdd : delta ⟨p1, p2⟩ (⟨x1, x2⟩, ⟨y1, y2⟩) = d at *
    generalize htt : touch ⟨p1, p2⟩ (⟨x1, x2⟩, ⟨y1, y2⟩) = tc at *
    generalize hon : onB ⟨x1, x2⟩ ⟨y1, y2⟩ ⟨p1, p2⟩ = o at *
    generalize hss : sideI ⟨x1, x2⟩ ⟨y1, y2⟩ ⟨p1, p2⟩ = s at *
    generalize sumP (delta ⟨p1, p2⟩) (pre.map (fun x : PP => x.1)) = S0 at *
    clear hdd htt hon hss
    obtain ⟨b1, b2, b3, b4, b5⟩ := F1.out W (Grow.refl W)
    have c1 := cell_of_row W B1 0 _ _ (0, 0) b1
    have c2 := cell_of_row W B1 1 _ _ (0, 0) b1
    have c3 := cell_of_row W B2 0 _ _ (0, 0) b2
    have c4 := cell_of_row W B2 1 _ _ (0, 0) b2
    have c5 := cell_of_row W w.heap.size 0 _ _ (0, 0) b3
    have c6 := cell_of_row W w.heap.size 1 _ _ (0, 0) b3
    have c7 := cell_of_one b4
    have c8 := free_of_one b4
    have c9 := free_of_one b5
    have c0 := cell_of_one b5
    clear b1 b2 b3 b4 b5
    gi_wp2_with fail
    refine ⟨trivial, CallsIn.inRound lY (callsIn_wide.2 (HSx.out _ _ ?_))⟩
    intro w3 hg3
    have G3 := Lib.hid hg3
    clear hg3 c1 c2 c3 c4 c5 c6 c7 c8 c9 c0
    obtain ⟨b1, b2, b3, b4, b5⟩ := F1.out w3 G3.out
    have c1 := cell_of_row w3 B1 0 _ _ (0, 0) b1
    have c2 := cell_of_row w3 B1 1 _ _ (0, 0) b1
    have c3 := cell_of_row w3 B2 0 _ _ (0, 0) b2
    have c4 := cell_of_row w3 B2 1 _ _ (0, 0) b2
    have c5 := cell_of_row w3 w.heap.size 0 _ _ (0, 0) b3
    have c6 := cell_of_row w3 w.heap.size 1 _ _ (0, 0) b3
    have c7 := cell_of_one b4
    have c8 := free_of_one b4
    have c9 := free_of_one b5
    have c0 := cell_of_one b5
    clear b1 b2 b3 b4 b5
    by_cases hs0 : s = 0
    · have hs1 : (s == 0) = true := by simp [hs0]
      gi_wp2_with fail
      refine ⟨trivial, CallsIn.inRound lY (callsIn_wide.2 (HNx.out _ _ ?_))⟩
      intro w4 hg4
      have G4 := Lib.hid (G3.out.tr hg4)
      clear hg4 c1 c2 c3 c4 c5 c6 c7 c8 c9 c0
      obtain ⟨b1, b2, b3, b4, b5⟩ := F1.out w4 G4.out
      have c1 := cell_of_row w4 B1 0 _ _ (0, 0) b1
      have c2 := cell_of_row w4 B1 1 _ _ (0, 0) b1
      have c3 := cell_of_row w4 B2 0 _ _ (0, 0) b2
      have c4 := cell_of_row w4 B2 1 _ _ (0, 0) b2
      have c5 := cell_of_row w4 w.heap.size 0 _ _ (0, 0) b3
      have c6 := cell_of_row w4 w.heap.size 1 _ _ (0, 0) b3
      have c7 := cell_of_one b4
      have c8 := free_of_one b4
      have c9 := free_of_one b5
      have c0 := cell_of_one b5
      clear b1 b2 b3 b4 b5
      cases o with
      | true =>
        have ht : tc = true := by rw [TE.out]; simp [hs0]
        have HXX := Lib.hid (HXF.out w4 G4.out ht)
        have c10 := free_of_one (blk_ne (F1.out w4 G4.out).2.2.2.2 (C := w.heap.size + 1) (by omega) 0 (.int .i64 0))
        clear HIF HXF DE TE ht
        gi_wp2
        exact HXX.out
      | false =>
        have ht : tc = false := by rw [TE.out]; simp
        have hd0 := HIF.out w4 G4.out 0 w4 (.inl ⟨rfl, rfl⟩) (by rw [DE.out, hs0]; simp) ht
        have HD0 := Lib.hid hd0
        clear HIF HXF DE TE ht hd0
        gi_wp2
        all_goals exact HD0.out
    · have hs1 : (s == 0) = false := by simp [hs0]
      have ht : tc = false := by rw [TE.out]; simp [hs0]
      have hd0 := fun d' W'' hW hd => HIF.out w3 G3.out d' W'' hW hd ht
      have HD0 := Lib.hid hd0
      clear HIF HXF TE ht hd0
      gi_wp2_with fail
      refine ⟨trivial, ?_⟩
      gi_wp2
      all_goals first
        | exact HD0.out 0 _ (.inl ⟨rfl, rfl⟩) (by rw [DE.out]; simp only [Bool.and_eq_true, decide_eq_true_eq]; (repeat' split) <;> omega)
        | exact HD0.out 1 _ (.inr rfl) (by rw [DE.out]; simp only [Bool.and_eq_true, decide_eq_true_eq]; (repeat' split) <;> omega)
        | exact HD0.out (-1) _ (.inr rfl) (by rw [DE.out]; simp only [Bool.and_eq_true, decide_eq_true_eq]; (repeat' split) <;> omega)
  case done =>
    rintro D xs W hD hxs ⟨hT, hS, hP, hF, hGW, hZ⟩ hK
    have HX := Lib.hid hxs
    have HT := Lib.hid hT
    have cS := cell_of_one hS
    have fS := free_of_one hS
    have cF := cell_of_one hF
    have fF := free_of_one hF
    have HS1 := Lib.hid hS
    have HF1 := Lib.hid hF
    have f1 := free_of_one (blk_ne hF (C := w.heap.size + 1) (by omega) 0 (.int .i64 (sumP (delta ⟨p1, p2⟩) (xs.map (fun x : PP => x.1)))))
    have f2 := cell_of_one (blk_ne hF (C := w.heap.size + 1) (by omega) 0 (.int .i64 (sumP (delta ⟨p1, p2⟩) (xs.map (fun x : PP => x.1)))))
    have hNT : (edgesL l).any (touch ⟨p1, p2⟩) = false := by
      rw [← hxs, List.any_map, List.any_eq_false]
      intro x hx
      simp only [Function.comp, hT x hx]
      decide
    have HNT := Lib.hid hNT
    clear hxs hS hF hT hNT r1 r2 r3 r4 hs
    gi_wp2
    have hK' := ((KeepsOthers.setCell W ⟨w.heap.size + 1, 0, none⟩ (.int .i64 (sumP (delta ⟨p1, p2⟩) (xs.map (fun x : PP => x.1))))).trans (KeepsOthers.setCell _ ⟨w.heap.size + 2, 0, none⟩ (.bool true))).same D _ hK rfl
    refine ⟨by simp, .inl ⟨_, _, rfl, run_takeDeferred hK', ?_⟩⟩
    have e1 := cell_of_one (blk_ne (blk_set HS1.out 0 (.int .i64 (sumP (delta ⟨p1, p2⟩) (xs.map (fun x : PP => x.1))))) (C := w.heap.size + 2) (by omega) 0 (.bool true))
    have e2 := cell_of_one (blk_set (blk_ne HF1.out (C := w.heap.size + 1) (by omega) 0 (.int .i64 (sumP (delta ⟨p1, p2⟩) (xs.map (fun x : PP => x.1))))) 0 (.bool true))
    have d1 := cell_kept e1 (grownBy_putObj' _ D (.deferred none)) (fun r e => by cases e; exact ⟨_, hK', rfl⟩)
    have d2 := cell_kept e2 (grownBy_putObj' _ D (.deferred none)) (fun r e => by cases e; exact ⟨_, hK', rfl⟩)
    refine ⟨.tuple #[.int .i64 (sumP (delta ⟨p1, p2⟩) (xs.map (fun x : PP => x.1))), .bool true], ?_, ?_, ?_⟩
    · simp [results, Try.f16, go_sem, d1, d2]
    · rw [HAN.out.1, HAN.out.2, HNT.out, HX.out]; rfl
    · exact ((hGW.setCell (p := ⟨w.heap.size + 1, 0, none⟩) (by show _ ≤ w.heap.size + 1; omega) _).setCell (p := ⟨w.heap.size + 2, 0, none⟩) (by show _ ≤ w.heap.size + 2; omega) _).trans (belowK_b (w := w) (Nat.le_refl _) _ D _ _ (by have := hG.size; omega) hK' rfl rfl)
  case stop =>
    rintro D c pre W hD hSp ⟨rfl, ⟨x, hx, ht⟩, hS, hF, hGW⟩ hK
    have hNT : (edgesL l).any (touch ⟨p1, p2⟩) = true := by
      rw [List.any_eq_true]
      rcases hSp with hSp
      exact ⟨x.1, hSp.mem (List.mem_map.2 ⟨x, hx, rfl⟩), ht⟩
    have HNT := Lib.hid hNT
    have e1 := Lib.hid (cell_of_one hS)
    have e2 := Lib.hid (cell_of_one hF)
    clear hS hF hSp ht hx hNT r1 r2 r3 r4 hs
    gi_wp2
    refine ⟨by simp, .inl ⟨_, _, rfl, run_takeDeferred hK, ?_⟩⟩
    have d1 := cell_kept e1.out (grownBy_putObj' _ D (.deferred none)) (fun r e => by cases e; exact ⟨_, hK, rfl⟩)
    have d2 := cell_kept e2.out (grownBy_putObj' _ D (.deferred none)) (fun r e => by cases e; exact ⟨_, hK, rfl⟩)
    refine ⟨.tuple #[.int .i64 0, .bool false], ?_, ?_, hGW.trans (belowK_b (w := w) (Nat.le_refl _) _ D _ _ (by have := hG.size; omega) hK rfl rfl)⟩
    · simp [results, Try.f16, go_sem, d1, d2]
    · rw [HAN.out.1, HAN.out.2, HNT.out]; rfl

set_option maxRecDepth 100000 in
set_option maxHeartbeats 2000000 in
theorem around_any (l : List Pt) (p : Pt) (v : Value) (S : Nat → Prop) (w : World) (hb : Rd w S 2 v l.length (Pts l)) {R : Ending → World → Prop}
    (hR : ∀ w', Grow w w' → R (.returned (.tuple #[.int .i64 (arN l p), .bool (arB l p)])) w') :
    Calls Try.prog 16 #[v, .agg p.cells.toArray] w R := by
  by_cases hc : rightL l = true ∧ p.inr = true
  · refine (callsIn_wide.1 (around_in l p v S w hb hc.1 hc.2)).mono ?_
    rintro e W' ⟨rfl, hg⟩
    exact hR _ hg
  · have hA : arN l p = 0 ∧ arB l p = false := by
      have : (rightL l && p.inr) = false := by
        cases h1 : rightL l <;> cases h2 : p.inr <;> simp_all
      simp [arN, arB, this]
    rw [hA.1, hA.2] at hR
    have HR := Lib.hid hR
    have HW := Lib.hid fun W (h : Grow w W) (R : Ending → World → Prop) hR => wright_any l v _ W ((hb.lt (by decide)).gr2 (by decide) h) (R := R) hR
    have HO := Lib.hid fun W (R : Ending → World → Prop) hR => wout_any p W (R := R) hR
    have hO : rightL l = true → p.inr = false := by
      intro h; cases h2 : p.inr
      · rfl
      · exact absurd ⟨h, h2⟩ hc
    clear hR hA hc hb
    obtain ⟨p1, p2⟩ := p
    unfold Pt.cells at HO ⊢
    dsimp only at HO ⊢
    have A3 := Lib.hid (al3 w (.cells #[.int .i64 p1, .int .i64 p2] 24) (.cells #[.int .i64 0] 3) (.cells #[.bool false] 4))
    have GA := Lib.hid ((((Grow.refl w).al (.cells #[.int .i64 p1, .int .i64 p2] 24)).al (.cells #[.int .i64 0] 3)).al (.cells #[.bool false] 4))
    cases hr : rightL l with
    | false =>
      rw [hr] at HW
      clear hr hO
      go_enter Try.func16, Try.ntmps16
      go_wp2_with fail
      refine HW.out _ GA.out _ ?_
      intro w1 hg1
      have G1 := Lib.hid hg1
      clear hg1
      have a2 := grow_blk G1.out A3.out.2.1
      have a3 := grow_blk G1.out A3.out.2.2
      have c1 := cell_of_one a2
      have c2 := free_of_one a2
      have c3 := cell_of_one a3
      have c4 := free_of_one a3
      have c5 := free_of_one (blk_ne a3 (C := w.heap.size + 1) (by omega) 0 (.int .i64 0))
      have c6 := cell_of_one (blk_ne a3 (C := w.heap.size + 1) (by omega) 0 (.int .i64 0))
      have c7 := cell_of_one (blk_ne (blk_set a2 0 (.int .i64 0)) (C := w.heap.size + 2) (by omega) 0 (.bool false))
      have c8 := cell_of_one (blk_set (blk_ne a3 (C := w.heap.size + 1) (by omega) 0 (.int .i64 0)) 0 (.bool false))
      clear a2 a3
      go_wp2
      refine bodyPost_ret (v := .tuple #[.int .i64 0, .bool false]) (by simp [results, Try.f16, go_sem, c7, c8, Nat.add_assoc]) rfl (HR.out _ ?_)
      exact ((GA.out.tr G1.out).set (p := ⟨w.heap.size + 1, 0, none⟩) (by show _ ≤ w.heap.size + 1; omega) _).set (p := ⟨w.heap.size + 2, 0, none⟩) (by show _ ≤ w.heap.size + 2; omega) _
    | true =>
      rw [hO hr] at HO
      rw [hr] at HW
      clear hr hO
      go_enter Try.func16, Try.ntmps16
      go_wp2_with fail
      refine HW.out _ GA.out _ ?_
      intro w1 hg1
      have G1 := Lib.hid hg1
      clear hg1
      have cp1 := cell_of_row w1 w.heap.size 0 _ _ (0, 0) (grow_blk G1.out A3.out.1)
      have cp2 := cell_of_row w1 w.heap.size 1 _ _ (0, 0) (grow_blk G1.out A3.out.1)
      go_wp2_with fail
      refine HO.out _ _ ?_
      intro w2 hg2
      have G2 := Lib.hid (G1.out.tr hg2)
      clear hg2
      have a2 := grow_blk G2.out A3.out.2.1
      have a3 := grow_blk G2.out A3.out.2.2
      have c1 := cell_of_one a2
      have c2 := free_of_one a2
      have c3 := cell_of_one a3
      have c4 := free_of_one a3
      have c5 := free_of_one (blk_ne a3 (C := w.heap.size + 1) (by omega) 0 (.int .i64 0))
      have c6 := cell_of_one (blk_ne a3 (C := w.heap.size + 1) (by omega) 0 (.int .i64 0))
      have c7 := cell_of_one (blk_ne (blk_set a2 0 (.int .i64 0)) (C := w.heap.size + 2) (by omega) 0 (.bool false))
      have c8 := cell_of_one (blk_set (blk_ne a3 (C := w.heap.size + 1) (by omega) 0 (.int .i64 0)) 0 (.bool false))
      clear a2 a3
      go_wp2
      refine bodyPost_ret (v := .tuple #[.int .i64 0, .bool false]) (by simp [results, Try.f16, go_sem, c7, c8, Nat.add_assoc]) rfl (HR.out _ ?_)
      exact ((GA.out.tr G2.out).set (p := ⟨w.heap.size + 1, 0, none⟩) (by show _ ≤ w.heap.size + 1; omega) _).set (p := ⟨w.heap.size + 2, 0, none⟩) (by show _ ≤ w.heap.size + 2; omega) _
end Go.Proofs.Ythgibnmnjoniiaa
