import Derived.Test.YtfdjdfobhkmlpaaChecked
import Derived.Test.YtfdjdfobhkmlpaaCore
import Derived.Test.YtfdjdfobhkmlpaaNorm
import Derived.Test.YtfdjdfobhkmlpaaSimp
import Derived.Test.YtfdjdfobhkmlpaaDelP
import Derived.Test.YtfdjdfobhkmlpaaFidx
namespace Go.Proofs.Ytfdjdfobhkmlpaa
open Go.RowKit Go.Lib B

set_option maxRecDepth 100000 in
set_option maxHeartbeats 1000000 in
theorem linside_any (p : Pt) (lo hi : Int) (w : World) {R : Ending → World → Prop} (hR : ∀ w', Grow w w' → R (.returned (.bool (p.inside lo hi))) w') : Calls Try.prog 37 #[.agg p.cells.toArray, .int .i64 lo, .int .i64 hi] w R := by
  obtain ⟨x, y⟩ := p
  have HR : ∀ b w', (Pt.inside ⟨x, y⟩ lo hi) = b → Grow w w' → R (.returned (.bool b)) w' := by rintro b w' rfl h; exact hR _ h
  have HR := Lib.hid HR
  clear hR
  unfold Pt.cells
  dsimp only
  cases h1 : decide (lo ≤ x)
  · go_enter Try.func37, Try.ntmps37
    go_wp2
    refine HR.out _ _ (by simp [Pt.inside, h1]) ((Grow.refl w).al _)
  · cases h2 : decide (x ≤ hi)
    · go_enter Try.func37, Try.ntmps37
      go_wp2
      refine HR.out _ _ (by simp [Pt.inside, h1, h2]) ((Grow.refl w).al _)
    · cases h3 : decide (lo ≤ y)
      · go_enter Try.func37, Try.ntmps37
        go_wp2
        refine HR.out _ _ (by simp [Pt.inside, h1, h2, h3]) ((Grow.refl w).al _)
      · go_enter Try.func37, Try.ntmps37
        go_wp2
        refine HR.out _ _ (by simp [Pt.inside, h1, h2, h3]) ((Grow.refl w).al _)


set_option maxRecDepth 100000 in
set_option maxHeartbeats 1000000 in
theorem notin_any (p : Pt) (lo hi : Int) (b1 b2 : Nat) (w : World) (h1 : w.cell? ⟨b1, 0, none⟩ = some (.int .i64 lo)) (h2 : w.cell? ⟨b2, 0, none⟩ = some (.int .i64 hi)) {R : Ending → World → Prop} (hR : ∀ w', Grow w w' → R (.returned (.bool (!p.inside lo hi))) w') :
    Calls Try.prog 36 #[.agg p.cells.toArray, .pointer (some ⟨b1, 0, none⟩), .pointer (some ⟨b2, 0, none⟩)] w R := by
  have HR := Lib.hid hR
  clear hR
  have HI := Lib.hid fun W (R : Ending → World → Prop) hR => linside_any p lo hi W (R := R) hR
  generalize p.inside lo hi = b at *
  obtain ⟨x, y⟩ := p
  unfold Pt.cells at *
  dsimp only at *
  have g1 := grow_cell ((Grow.refl w).al (.cells #[.int .i64 x, .int .i64 y] 36)) h1
  have g2 := grow_cell ((Grow.refl w).al (.cells #[.int .i64 x, .int .i64 y] 36)) h2
  go_enter Try.func36, Try.ntmps36
  go_wp2_with (go_at_call 37; refine HI.out _ _ ?_; intro w1 hg1)
  exact HR.out _ (grow_al hg1)

set_option maxRecDepth 100000 in
set_option maxHeartbeats 2000000 in
theorem indexNotin_any (l : List Pt) (lo hi : Int) (b1 b2 : Nat) (v : Value) (S : Nat → Prop) (w : World) (hb : Rd w S 2 v l.length (Pts l)) (h1 : w.cell? ⟨b1, 0, none⟩ = some (.int .i64 lo)) (h2 : w.cell? ⟨b2, 0, none⟩ = some (.int .i64 hi)) {R : Ending → World → Prop}
    (hR : ∀ w', Grow w w' → R (.returned (.int .i64 (fidx (fun p => !p.inside lo hi) l))) w') :
    Calls Try.prog 46 #[v, .func (.func 36) #[] #[.pointer (some ⟨b1, 0, none⟩), .pointer (some ⟨b2, 0, none⟩)]] w R := by
  have HR := Lib.hid hR
  clear hR
  have H1 := Lib.hid h1
  have H2 := Lib.hid h2
  clear h1 h2
  have hb := hb.lt (by decide)
  obtain ⟨_, A, c, rfl, k1, k2, k3, k4⟩ := hb
  unfold maxLen at k2
  go_enter Try.func46, Try.ntmps46
  go_wp2
  go_loopw [8] (fun i wr => ∃ (k : Nat), k ≤ l.length ∧ i = .int .i64 k ∧ Hid (∀ q ∈ l.take k, (!q.inside lo hi) = false) ∧ Hid (Grow w wr)) (fun i _ => l.length - (Go.RowKit.intOf i).toNat)
  case atStart => exact ⟨0, Nat.zero_le _, rfl, fun q hq => by simp at hq, Grow.refl _⟩
  case round =>
    obtain ⟨k, hk, rfl, hall, hg⟩ := hrel
    by_cases hlt : k < l.length
    · obtain ⟨b, o, rfl, hS, hc⟩ := k4 (by omega)
      have e1 := flat_cells Pt.cells_len hg.out hS hc hlt
      clear hc k4 k3
      have NX : Hid ((!l[k].inside lo hi) = false → ∀ q ∈ l.take (k + 1), (!q.inside lo hi) = false) := take_all_succ hlt hall.out
      have FD : Hid ((!l[k].inside lo hi) = true → fidx (fun p => !p.inside lo hi) l = k) := fidx_some hlt hall.out
      have HI := Lib.hid fun W h1 h2 (R : Ending → World → Prop) hR => notin_any (l[k]'hlt) lo hi b1 b2 W h1 h2 (R := R) hR
      generalize (!l[k].inside lo hi) = bi at *
      generalize l[k] = x at *
      obtain ⟨x1, x2⟩ := x
      have c1 := e1 0 _ rfl
      have c2 := e1 1 _ rfl
      clear e1
      simp only [Nat.add_zero] at c1
      unfold Pt.cells at HI
      dsimp only at HI
      cases bi with
      | false =>
        go_wp2_with (go_at_call 36; refine HI.out _ (grow_cell hg.out H1.out) (grow_cell hg.out H2.out) _ ?_; intro w1 hg1; have HG1 := Lib.hid (hg.out.tr hg1); clear hg1 c1 c2)
        go_roundw
        case rel => exact ⟨k + 1, by omega, by go_num, NX.out (by first | rfl | trivial), HG1.out⟩
        case measure => simp [Go.RowKit.intOf]; omega
      | true =>
        go_wp2_with (go_at_call 36; refine HI.out _ (grow_cell hg.out H1.out) (grow_cell hg.out H2.out) _ ?_; intro w1 hg1; have HG1 := Lib.hid (hg.out.tr hg1); clear hg1 c1 c2)
        have h := HR.out _ HG1.out
        rw [FD.out (by first | rfl | trivial)] at h
        exact h
    · obtain rfl : k = l.length := by omega
      go_wp2
      have h := HR.out _ hg.out
      rw [fidx_none hall.out] at h
      exact h

set_option maxRecDepth 100000 in
set_option maxHeartbeats 4000000 in
theorem deleteNotin_any (l : List Pt) (lo hi : Int) (b1 b2 base : Nat) (v : Value) (w0 w : World) (hown : w.ownsRow base 36 2 v l.length (Pts l)) (hg0 : Grow w0 w) (hb0 : w0.heap.size ≤ base)
    (h1 : w0.cell? ⟨b1, 0, none⟩ = some (.int .i64 lo)) (h2 : w0.cell? ⟨b2, 0, none⟩ = some (.int .i64 hi)) {R : Ending → World → Prop}
    (hR : ∀ r w', w'.ownsRow base 36 2 r (l.filter fun p => p.inside lo hi).length (Pts (l.filter fun p => p.inside lo hi)) → Grow w0 w' → R (.returned r) w') :
    Calls Try.prog 34 #[v, .func (.func 36) #[] #[.pointer (some ⟨b1, 0, none⟩), .pointer (some ⟨b2, 0, none⟩)]] w R := by
  have HR := Lib.hid hR
  clear hR
  have H1 := Lib.hid h1
  have H2 := Lib.hid h2
  have HX := Lib.hid fun (R : Ending → World → Prop) hR => indexNotin_any l lo hi b1 b2 v _ w (Rd.own hown) (grow_cell hg0 h1) (grow_cell hg0 h2) (R := R) hR
  clear h1 h2
  obtain ⟨A, c, rfl⟩ : ∃ A c, v = .slice A l.length c := by
    obtain ⟨_, A, c, h, _⟩ := Rd.own hown
    exact ⟨A, c, h⟩
  cases hf : l.findIdx? (fun p => !p.inside lo hi) with
  | none =>
    have hfi : fidx (fun p => !p.inside lo hi) l = -1 := by simp [fidx, hf]
    rw [hfi] at HX
    have hall : l.filter (fun p => p.inside lo hi) = l := by
      rw [List.findIdx?_eq_none_iff] at hf
      rw [List.filter_eq_self]
      intro q hq
      simpa using hf q hq
    have HALL := Lib.hid hall
    have HO := Lib.hid hown
    clear hf hfi hall hown
    go_enter Try.func34, Try.ntmps34
    go_wp2_with (go_at_call 46; refine HX.out _ ?_; intro w1 hg1)
    refine HR.out _ _ ?_ (hg0.tr hg1)
    rw [HALL.out]
    exact own_grow HO.out hg1
  | some i0 =>
    have hfi : fidx (fun p => !p.inside lo hi) l = i0 := by simp [fidx, hf]
    rw [hfi] at HX
    obtain ⟨hi0, hx0, hlo⟩ := List.findIdx?_eq_some_iff_getElem.1 hf
    have st := Lib.hid (DelInv.start (keep := fun p => p.inside lo hi) hi0 (fun q hq => by
      obtain ⟨j, hj, rfl⟩ := List.mem_take_iff_getElem.1 hq
      have := hlo j (by omega)
      simpa using this) (by simpa using hx0))
    clear hf hfi hx0 hlo
    obtain ⟨g, rfl⟩ : ∃ g, A = some ⟨g, 0, none⟩ := by
      rcases hown.2 with ⟨h, h0⟩ | ⟨g, cap, cur, h, _⟩
      · injection h with _ h _; omega
      · injection h with h
        exact ⟨g, h⟩
    have hcap : l.length ≤ c ∧ c ≤ 9223372036854775807 := by
      obtain ⟨_, A', c', h, h1, h3, _⟩ := Rd.own hown
      injection h with _ _ h
      subst h
      exact ⟨h1, h3⟩
    obtain ⟨hcap1, hcap2⟩ := hcap
    have HO := Lib.hid hown
    clear hown
    have t0 : ((i0 : Int) == -1) = false := by simp
    go_enter Try.func34, Try.ntmps34
    go_wp2_with (go_at_call 46; refine HX.out _ ?_; intro w1 hg1; have HG1 := Lib.hid (hg0.tr hg1); have HO1 := Lib.hid (own_grow HO.out hg1); clear hg1)
    go_loopw [5, 6] (fun s5 s6 wr => ∃ (i j : Nat) (d : List Pt), s5 = .int .i64 i ∧ s6 = .int .i64 j ∧ i < j ∧ j ≤ l.length ∧ d.length = l.length ∧ wr.ownsRow base 36 2 (.slice (some ⟨g, 0, none⟩) l.length c) l.length (Pts d) ∧ Hid (Grow w0 wr) ∧ Hid (DelInv (fun p => p.inside lo hi) l d i j)) (fun _ s6 _ => l.length - (Go.RowKit.intOf s6).toNat)
    case atStart => exact ⟨i0, i0 + 1, l, rfl, by go_num, by omega, by omega, rfl, HO1.out, HG1.out, st.out⟩
    case round =>
      obtain ⟨i, j, d, rfl, rfl, hij, hj, hd, hO, hG, hI⟩ := hrel
      have hfz := hO.frozenAt
      clear st HO1 HG1 HX
      by_cases hlt : j < l.length
      · have e1 := own_pt hO (j := j) (by omega)
        have hdj := hI.out.at_ hlt
        rw [hdj] at e1
        have SK : Hid ((!l[j].inside lo hi) = true → DelInv (fun p => p.inside lo hi) l d i (j + 1)) := fun h => hI.out.skip hlt (by simpa using h)
        have KP : Hid ((!l[j].inside lo hi) = false → DelInv (fun p => p.inside lo hi) l (d.set i l[j]) (i + 1) (j + 1)) := fun h => hI.out.keep hlt (by simpa using h)
        have HI := Lib.hid fun W h1 h2 (R : Ending → World → Prop) hR => notin_any (l[j]'hlt) lo hi b1 b2 W h1 h2 (R := R) hR
        have HO := Lib.hid hO
        clear hO hdj
        have hw : j < d.length := by omega
        generalize (!l[j].inside lo hi) = bi at *
        generalize l[j] = x at *
        obtain ⟨x1, x2⟩ := x
        have c1 := e1 0 _ rfl
        have c2 := e1 1 _ rfl
        clear e1
        simp only [Nat.add_zero] at c1
        unfold Pt.cells at HI
        dsimp only at HI
        go_wp2_with fail
        refine HI.out _ (grow_cell (hG.out.al _) H1.out) (grow_cell (hG.out.al _) H2.out) _ ?_
        intro w2 hg2
        have bx := box_at hg2
        have G2 := Lib.hid (grow_al hg2)
        have O2 := Lib.hid (own_grow HO.out (grow_al hg2))
        clear c1 c2 hg2
        cases bi with
        | true =>
          go_wp2
          go_roundw
          case rel => exact ⟨i, j + 1, d, rfl, by go_num, by omega, by omega, hd, O2.out, hG.out.tr G2.out, SK.out (by first | rfl | trivial)⟩
          case measure => simp [Go.RowKit.intOf]; omega
        | false =>
          have e3 := own_pt O2.out (j := i) (by omega)
          have hil : i < l.length := by omega
          generalize d[i]'(by omega) = y at *
          obtain ⟨y1, y2⟩ := y
          have p1 := e3 0 _ rfl
          have p2 := e3 1 _ rfl
          simp only [Nat.add_zero] at p1
          have hfz := O2.out.frozenAt
          have hfin : Hid (((w2.setCell ⟨g, i * 2, none⟩ (.int .i64 x1)).setCell ⟨g, i * 2 + 1, none⟩ (.int .i64 x2)).ownsRow base 36 2 (.slice (some ⟨g, 0, none⟩) l.length c) l.length (Pts (d.set i ⟨x1, x2⟩)) ∧
              Grow w0 ((w2.setCell ⟨g, i * 2, none⟩ (.int .i64 x1)).setCell ⟨g, i * 2 + 1, none⟩ (.int .i64 x2))) := by
            have hgb := (O2.out.lt g rfl).1
            refine ⟨own_eq ((O2.out.stored _ _).1.stored _ _).1 rfl ?_, ((hG.out.tr G2.out).set (by show _ ≤ g; omega) _).set (by show _ ≤ g; omega) _⟩
            exact pts_set d i ⟨x1, x2⟩ (by omega)
          clear e3
          have b1 := bx 0
          have b2 := bx 1
          clear bx
          go_wp2
          go_roundw
          case rel => exact ⟨i + 1, j + 1, d.set i ⟨x1, x2⟩, by go_num, by go_num, by omega, by omega, by rw [List.length_set]; exact hd, hfin.out.1, hfin.out.2, KP.out (by first | rfl | trivial)⟩
          case measure => simp [Go.RowKit.intOf]; omega
      · obtain rfl : j = l.length := by omega
        have hcl : ∀ ty, (Builtin.clear_ #[33] ty #[.slice (some ⟨g, i * 2, none⟩) (l.length - i) (c - i)]).run Try.prog wr = .ok (.tuple #[]) (wr.setCells g (i * 2) (Builtin.zeroCells (Value.agg #[.int .i64 0, .int .i64 0]).cells (l.length - i)).toList) := by
          have hzl : (Builtin.zeroCells (Value.agg #[.int .i64 0, .int .i64 0]).cells (l.length - i)).toList.length = (l.length - i) * 2 := by simp [Builtin.zeroCells, Value.cells]
          refine fun ty => run_clear_cells wr _ 36 ty (.agg #[.int .i64 0, .int .i64 0]) el_pt.ht ?_ g _ _ _ _ (by omega) rfl ?_ ?_ ?_
          · obtain ⟨i, hi, hz0, _⟩ := info_parts el_pt.hi
            exact run_zero hi hz0
          · intro j hj
            rw [hzl] at hj
            rw [hO.cellAt (i * 2 + j) (by omega), List.getElem?_eq_getElem (by rw [Pts_len]; omega)]
            rfl
          · exact fun j _ => hfz _
          · intro u hu
            rw [Array.mem_toList_iff] at hu
            simp only [Builtin.zeroCells, Array.mem_map, Array.mem_range] at hu
            obtain ⟨i, _, rfl⟩ := hu
            have h2 : i % 2 < 2 := Nat.mod_lt _ (by decide)
            show Value.oneCell' ((#[Value.int .i64 0, Value.int .i64 0] : Array Value)[i % 2]!) = true
            generalize i % 2 = r at h2
            match r, h2 with
            | 0, _ => rfl
            | 1, _ => rfl
        have hln : Hid ((l.filter fun p => p.inside lo hi).length = i) := hI.out.cnt
        have hfin : Hid (∀ zs2 : List Value, (wr.setCells g (i * 2) zs2).ownsRow base 36 2 (.slice (some ⟨g, 0, none⟩) i c) i (Pts (l.filter fun p => p.inside lo hi)) ∧ Grow w0 (wr.setCells g (i * 2) zs2)) := by
          intro zs2
          have hgb := (hO.lt g rfl).1
          obtain ⟨ys, h3, h4, h5⟩ := own_setCells (m := i * 2) zs2 (i * 2) wr _ (Nat.le_refl _) hO
          refine ⟨own_eq (own_cut h3 (by omega) (by omega)) rfl ?_, grow_app hG.out h5 fun k hk => by cases hk; omega⟩
          rw [h4, Pts_take, hI.out.done]
        clear hO hfz
        have hkz : i ≤ l.length := by omega
        have hkc : i ≤ c := by omega
        go_wp2
        exact HR.out (.slice (some ⟨g, 0, none⟩) i c) _ (own_eq (hfin.out _).1 hln.out.symm rfl) (hfin.out _).2

set_option maxRecDepth 100000 in
set_option maxHeartbeats 2000000 in
theorem npoints_any (l : List Pt) (lo hi : Int) (v : Value) (S : Nat → Prop) (w : World) (hb : Rd w S 2 v l.length (Pts l)) (hl : l.length ≤ 1000000) {R : Ending → World → Prop}
    (hR : ∀ r w', w'.ownsRow (w.heap.size + 2) 36 2 r (l.filter fun p => p.inside lo hi).length (Pts (l.filter fun p => p.inside lo hi)) → Grow w w' → R (.returned r) w') :
    Calls Try.prog 22 #[v, .int .i64 lo, .int .i64 hi] w R := by
  have HR := Lib.hid hR
  clear hR
  have HB := Lib.hid hb
  clear hb
  go_enter Try.func22, Try.ntmps22
  go_wp2_with fail
  have hs2 : ((w.alloc (.cells #[.int .i64 lo] 3)).alloc (.cells #[.int .i64 hi] 3)).heap.size = w.heap.size + 2 := by simp [World.size_alloc]
  have hgw : Hid (Grow w ((w.alloc (.cells #[.int .i64 lo] 3)).alloc (.cells #[.int .i64 hi] 3))) := ((Grow.refl w).al _).al _
  have hc1 : Hid (((w.alloc (.cells #[.int .i64 lo] 3)).alloc (.cells #[.int .i64 hi] 3)).cell? ⟨w.heap.size, 0, none⟩ = some (.int .i64 lo)) := box_at ((Grow.refl _).al _) 0
  have hc2 : Hid (((w.alloc (.cells #[.int .i64 lo] 3)).alloc (.cells #[.int .i64 hi] 3)).cell? ⟨w.heap.size + 1, 0, none⟩ = some (.int .i64 hi)) := by
    have := box_at (Grow.refl ((w.alloc (.cells #[.int .i64 lo] 3)).alloc (.cells #[.int .i64 hi] 3))) 0
    rw [World.size_alloc] at this
    exact this
  have hb2 : Hid (Rd ((w.alloc (.cells #[.int .i64 lo] 3)).alloc (.cells #[.int .i64 hi] 3)) (· < w.heap.size) 2 v l.length (Pts l)) := HB.out.gr (by decide) hgw.out
  have HS2 := Lib.hid hs2
  clear hs2
  generalize (w.alloc (.cells #[.int .i64 lo] 3)).alloc (.cells #[.int .i64 hi] 3) = W at *
  refine clonePts_any l v _ W hb2.out hl ?_
  intro r1 w1 hown1 hg1
  rw [HS2.out] at hown1
  have HO1 := Lib.hid hown1
  have HG1 := Lib.hid hg1
  clear hown1 hg1
  go_wp2_with fail
  refine deleteNotin_any l lo hi w.heap.size (w.heap.size + 1) (w.heap.size + 2) r1 W w1 HO1.out HG1.out (by rw [HS2.out]; exact Nat.le_refl _) hc1.out hc2.out ?_
  intro r2 w2 hown2 hg2
  go_wp2
  exact HR.out _ _ hown2 (hgw.out.tr hg2)
