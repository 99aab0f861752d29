import Derived.Test.YtfdjdfobhkmlpaaChecked
import Derived.Test.YtfdjdfobhkmlpaaCore
import Derived.Test.YtfdjdfobhkmlpaaPts
import Derived.Test.YtfdjdfobhkmlpaaNorm
import Derived.Test.YtfdjdfobhkmlpaaCompP
namespace Go.Proofs.Ytfdjdfobhkmlpaa
open Go.RowKit Go.Lib

instance : Inhabited Pt := ⟨⟨0, 0⟩⟩

theorem own_pt {w : World} {base e g cap n : Nat} {zs : List Pt} (h : w.ownsRow base e 2 (.slice (some ⟨g, 0, none⟩) n cap) n (Pts zs)) {j : Nat} (hj : j < zs.length) : ∀ i u, (zs[j]).cells[i]? = some u → w.cell? ⟨g, j * 2 + i, none⟩ = some u := by
  intro i u hu
  have hi : i < 2 := by rw [← Pt.cells_len zs[j]]; exact (List.getElem?_eq_some_iff.1 hu).1
  have hn := h.1
  rw [Pts_len] at hn
  rw [h.cellAt (j * 2 + i) (by omega)]
  show (Pts zs)[j * 2 + i]? = _
  unfold Pts
  rw [flat_at _ 2 Pt.cells_len zs j i hj hi, hu]

theorem pts_set (zs : List Pt) (k : Nat) (p : Pt) (hk : k < zs.length) : ((Pts zs).set (k * 2) (.int .i64 p.x)).set (k * 2 + 1) (.int .i64 p.y) = Pts (zs.set k p) := by
  induction zs generalizing k with
  | nil => simp at hk
  | cons z zs ih =>
    cases k with
    | zero => rfl
    | succ k =>
      have := ih k (by simpa using hk)
      rw [show (k + 1) * 2 = k * 2 + 1 + 1 by omega]
      show Value.int .i64 z.x :: Value.int .i64 z.y :: ((Pts zs).set (k * 2) _).set (k * 2 + 1) _ = _
      rw [this]
      rfl

set_option maxRecDepth 100000 in
set_option maxHeartbeats 4000000 in
theorem compact_any (zs : List Pt) (v : Value) (base : Nat) (w0 w : World) (hown : w.ownsRow base 36 2 v zs.length (Pts zs)) (hg0 : Grow w0 w) (hb0 : w0.heap.size ≤ base) {R : Ending → World → Prop}
    (hR : ∀ r w', w'.ownsRow base 36 2 r (compact zs).length (Pts (compact zs)) → Grow w0 w' → R (.returned r) w') :
    Calls Try.prog 65 #[v] w R := by
  have HR := Lib.hid hR
  clear hR
  have hcd : compact zs = compactUpTo zs.toArray zs.length := rfl
  have same : Hid ((∀ j, j < zs.length → keeps zs.toArray j = true) → compact zs = zs) := compact_all zs
  have HCD := Lib.hid hcd
  clear hcd
  obtain ⟨A, c, rfl⟩ : ∃ A c, v = .slice A zs.length c := by
    obtain ⟨_, A, c, h, _⟩ := Rd.own hown
    exact ⟨A, c, h⟩
  by_cases h2 : zs.length < 2
  · have t1 : decide ((zs.length : Int) < 2) = true := by simp; omega
    go_enter Try.func65, Try.ntmps65
    go_wp2
    have e := same.out (fun j hj => keeps_lt_one _ j (by omega))
    refine HR.out _ _ ?_ hg0
    rw [e]
    exact hown
  · have t1 : decide ((zs.length : Int) < 2) = false := by simp; omega
    obtain ⟨g, rfl⟩ : ∃ g, A = some ⟨g, 0, none⟩ := by
      rcases hown.2 with ⟨h, h0⟩ | ⟨g, cap, cur, h, _⟩
      · omega
      · injection h with h
        exact ⟨g, h⟩
    have hcap : zs.length ≤ c ∧ c ≤ 9223372036854775807 := by
      obtain ⟨_, A', c', h, h1, h3, _⟩ := Rd.own hown
      injection h with _ _ h
      subst h
      exact ⟨h1, h3⟩
    obtain ⟨hcap1, hcap2⟩ := hcap
    go_enter Try.func65, Try.ntmps65
    go_wp2
    go_loopw [3] (fun s3 wr => ∃ k q : Nat, 1 ≤ k ∧ k ≤ zs.length ∧ s3 = .int .i64 k ∧ wr = w.drewN q ∧ Hid (∀ j, j < k → keeps zs.toArray j = true)) (fun s3 _ => zs.length - (Go.RowKit.intOf s3).toNat)
    case atStart => exact ⟨1, 0, Nat.le_refl _, by omega, rfl, rfl, keeps_lt_one _⟩
    case round =>
      obtain ⟨k, q, hk1, hk, rfl, rfl, hall⟩ := hrel
      by_cases hlt : k < zs.length
      · have e1 := own_pt hown hlt
        have e2 := own_pt hown (show k - 1 < zs.length by omega)
        have B : Hid (zs.toArray[k]! = zs[k] ∧ zs.toArray[k - 1]! = zs[k - 1]) := ⟨by simp [hlt], by simp [show k - 1 < zs.length by omega]⟩
        have HO := Lib.hid hown
        clear hown
        generalize zs[k] = x at *
        generalize zs[k - 1] = y at *
        obtain ⟨x1, x2⟩ := x
        obtain ⟨y1, y2⟩ := y
        have c1 := e1 0 _ rfl
        have c2 := e1 1 _ rfl
        have d1 := e2 0 _ rfl
        have d2 := e2 1 _ rfl
        simp only [Nat.add_zero] at c1 d1
        clear e1 e2
        have hsub : ((k : Int) - 1) = ((k - 1 : Nat) : Int) := by omega
        have hkk : k - 1 < zs.length := by omega
        have split : (x1 = y1 ∧ x2 = y2) ∨ ((x1 == y1) = false ∨ ((x1 == y1) = true ∧ (x2 == y2) = false)) := by
          by_cases a : x1 = y1 <;> by_cases b : x2 = y2 <;> simp [a, b]
        rcases split with ⟨rfl, rfl⟩ | hdiff
        · have hk0 : Hid (keeps zs.toArray k = false) := keeps_neg (by omega) (by rw [B.out.1, B.out.2])
          have st := Lib.hid (CompInv.start hall.out hk0.out)
          clear B hall hk0
          go_wp2
          go_quiet (fail)
          go_wp2
          clear c1 c2 d1 d2 hsub hkk
          go_loopw [3, 5] (fun s3 s5 wr => ∃ (kk k2 : Nat) (dk : Array Pt), s3 = .int .i64 kk ∧ s5 = .int .i64 k2 ∧ 1 ≤ k2 ∧ k + k2 ≤ zs.length ∧ wr.ownsRow base 36 2 (.slice (some ⟨g, 0, none⟩) zs.length c) zs.length (Pts dk.toList) ∧ Hid (Grow w0 wr) ∧ Hid (CompInv zs.toArray (k + k2) kk dk)) (fun _ s5 _ => zs.length - (Go.RowKit.intOf s5).toNat)
          case atStart => exact ⟨k, 1, zs.toArray, rfl, rfl, Nat.le_refl _, by omega, by simpa using own_grow HO.out ((Grow.refl w).dn _), hg0.dn _, st.out⟩
          case round =>
            obtain ⟨kk, k2, dk, rfl, rfl, h1, hle, hO, hG, hI⟩ := hrel
            have hkk := hI.out.lt
            have hds : dk.size = zs.length := by have := hI.out.size; simpa using this
            have hfz := hO.frozenAt
            have HO2 := Lib.hid hO
            by_cases hlt2 : k + k2 < zs.length
            · have e1 := own_pt hO (j := k + k2) (by simp; omega)
              have e2 := own_pt hO (j := k + k2 - 1) (by simp; omega)
              have e3 := own_pt hO (j := kk) (by simp; omega)
              have B : Hid (zs.toArray[k + k2]! = dk.toList[k + k2]'(by simp; omega) ∧ zs.toArray[k + k2 - 1]! = dk.toList[k + k2 - 1]'(by simp; omega)) := by
                refine ⟨?_, ?_⟩
                · rw [← hI.out.high (k + k2) (by omega)]; simp [show k + k2 < dk.size by omega]
                · rw [← hI.out.high (k + k2 - 1) (by omega)]; simp [show k + k2 - 1 < dk.size by omega]
              clear hO
              generalize dk.toList[k + k2]'(by simp; omega) = x at *
              generalize dk.toList[k + k2 - 1]'(by simp; omega) = y at *
              generalize dk.toList[kk]'(by simp; omega) = o at *
              obtain ⟨x1, x2⟩ := x
              obtain ⟨y1, y2⟩ := y
              obtain ⟨o1, o2⟩ := o
              have c1 := e1 0 _ rfl
              have c2 := e1 1 _ rfl
              have d1 := e2 0 _ rfl
              have d2 := e2 1 _ rfl
              have p1 := e3 0 _ rfl
              have p2 := e3 1 _ rfl
              rw [show (k + k2) * 2 = k * 2 + k2 * 2 by omega] at c1 c2
              rw [show (k + k2 - 1) * 2 = k * 2 + (k2 - 1) * 2 by omega] at d1 d2
              simp only [Nat.add_zero] at c1 d1 p1
              clear e1 e2 e3
              have hsub : ((k2 : Int) - 1) = ((k2 - 1 : Nat) : Int) := by omega
              have hz1 : k2 - 1 < zs.length - k := by omega
              have hz2 : k2 < zs.length - k := by omega
              have hz3 : kk < zs.length := by omega
              have split : (x1 = y1 ∧ x2 = y2) ∨ ((x1 != y1) = true ∨ ((x1 != y1) = false ∧ (x2 != y2) = true)) := by
                by_cases a : x1 = y1 <;> by_cases b : x2 = y2 <;> simp [a, b]
              rcases split with ⟨rfl, rfl⟩ | hdiff
              · have nx := Lib.hid (hI.out.skip (keeps_neg (by omega) (by rw [B.out.1, B.out.2])))
                clear B
                go_wp2
                go_quiet (fail)
                go_wp2
                go_roundw
                case rel => exact ⟨kk, k2 + 1, dk, by go_num, by go_num, by omega, by omega, own_grow HO2.out ((Grow.refl _).dn _), hG.out.dn _, nx.out⟩
                case measure => simp [Go.RowKit.intOf]; omega
              · have hkd : Hid (keeps zs.toArray (k + k2) = true) := by
                  refine keeps_pos ?_
                  rw [B.out.1, B.out.2]
                  intro e
                  injection e with e1 e2
                  subst e1 e2
                  simp at hdiff
                have hx : Hid (zs.toArray[k + k2]! = ⟨x1, x2⟩) := B.out.1
                have nx := Lib.hid (hI.out.keep (by simpa using hlt2) hkd.out)
                have hfin : Hid (∀ W, Grow wr W → W.ownsRow base 36 2 (.slice (some ⟨g, 0, none⟩) zs.length c) zs.length (Pts dk.toList) →
                    ((W.setCell ⟨g, kk * 2, none⟩ (.int .i64 x1)).setCell ⟨g, kk * 2 + 1, none⟩ (.int .i64 x2)).ownsRow base 36 2 (.slice (some ⟨g, 0, none⟩) zs.length c) zs.length (Pts (dk.setIfInBounds kk (zs.toArray[k + k2]!)).toList) ∧
                    Grow w0 ((W.setCell ⟨g, kk * 2, none⟩ (.int .i64 x1)).setCell ⟨g, kk * 2 + 1, none⟩ (.int .i64 x2))) := by
                  intro W hW h
                  have hgb := (h.lt g rfl).1
                  refine ⟨own_eq ((h.stored _ _).1.stored _ _).1 rfl ?_, ((hG.out.tr hW).set (by show _ ≤ g; omega) _).set (by show _ ≤ g; omega) _⟩
                  rw [Array.toList_setIfInBounds, hx.out]
                  exact pts_set dk.toList kk ⟨x1, x2⟩ (by simp; omega)
                clear B hx hkd
                rcases hdiff with t2 | ⟨t2, t3⟩
                · have t4 : (x1 == y1) = false := by simpa using t2
                  go_wp2
                  go_quiet (fail)
                  go_wp2
                  go_roundw
                  case rel => exact ⟨kk + 1, k2 + 1, _, by go_num, by go_num, by omega, by omega, (hfin.out _ ((Grow.refl _).dn _) (own_grow HO2.out ((Grow.refl _).dn _))).1, (hfin.out _ ((Grow.refl _).dn _) (own_grow HO2.out ((Grow.refl _).dn _))).2, nx.out⟩
                  case measure => simp [Go.RowKit.intOf]; omega
                · obtain rfl : x1 = y1 := by simpa using t2
                  have t4 : (x2 == y2) = false := by simpa using t3
                  clear t2
                  go_wp2
                  go_quiet (fail)
                  go_wp2
                  go_roundw
                  case rel => exact ⟨kk + 1, k2 + 1, _, by go_num, by go_num, by omega, by omega, (hfin.out _ ((Grow.refl _).dn _) (own_grow HO2.out ((Grow.refl _).dn _))).1, (hfin.out _ ((Grow.refl _).dn _) (own_grow HO2.out ((Grow.refl _).dn _))).2, nx.out⟩
                  case measure => simp [Go.RowKit.intOf]; omega
            · have hend : k + k2 = zs.length := by omega
              have hcl : ∀ ty, (Builtin.clear_ #[33] ty #[.slice (some ⟨g, kk * 2, none⟩) (zs.length - kk) (c - kk)]).run Try.prog wr = .ok (.tuple #[]) (wr.setCells g (kk * 2) (Builtin.zeroCells (Value.agg #[.int .i64 0, .int .i64 0]).cells (zs.length - kk)).toList) := by
                have hzl : (Builtin.zeroCells (Value.agg #[.int .i64 0, .int .i64 0]).cells (zs.length - kk)).toList.length = (zs.length - kk) * 2 := by simp [Builtin.zeroCells, Value.cells]
                refine fun ty => run_clear_cells wr _ 36 ty (.agg #[.int .i64 0, .int .i64 0]) el_pt.ht ?_ g _ _ _ _ (by omega) rfl ?_ ?_ ?_
                · obtain ⟨i, hi, hz0, _⟩ := info_parts el_pt.hi
                  exact run_zero hi hz0
                · intro j hj
                  rw [hzl] at hj
                  rw [hO.cellAt (kk * 2 + j) (by omega), List.getElem?_eq_getElem (by rw [Pts_len]; simp; omega)]
                  rfl
                · exact fun j _ => hfz _
                · intro u hu
                  rw [Array.mem_toList_iff] at hu
                  simp only [Builtin.zeroCells, Array.mem_map, Array.mem_range] at hu
                  obtain ⟨i, _, rfl⟩ := hu
                  have h2 : i % 2 < 2 := Nat.mod_lt _ (by decide)
                  show Value.oneCell' ((#[Value.int .i64 0, Value.int .i64 0] : Array Value)[i % 2]!) = true
                  generalize i % 2 = r at h2
                  match r, h2 with
                  | 0, _ => rfl
                  | 1, _ => rfl
              have hln : Hid ((compact zs).length = kk) := by
                have := hI.out.len
                rw [hend] at this
                exact this
              have hfin : Hid (∀ zs2 : List Value, (wr.setCells g (kk * 2) zs2).ownsRow base 36 2 (.slice (some ⟨g, 0, none⟩) kk c) kk (Pts (compact zs)) ∧ Grow w0 (wr.setCells g (kk * 2) zs2)) := by
                intro zs2
                have hgb := (hO.lt g rfl).1
                obtain ⟨ys, h3, h4, h5⟩ := own_setCells (m := kk * 2) zs2 (kk * 2) wr _ (Nat.le_refl _) hO
                refine ⟨own_eq (own_cut h3 (by omega) (by omega)) rfl ?_, grow_app hG.out h5 fun k hk => by cases hk; omega⟩
                rw [h4]
                have hlow := hI.out.low
                rw [hend] at hlow
                have e : compact zs = dk.toList.take kk := by
                  apply List.ext_getElem?
                  intro j
                  by_cases hj : j < kk
                  · rw [HCD.out, hlow j hj, List.getElem?_take_of_lt hj]
                    simp [show j < dk.size by omega]
                  · rw [List.getElem?_eq_none (by rw [hln.out]; omega), List.getElem?_eq_none (by rw [List.length_take]; omega)]
                rw [e]
                conv => lhs; rw [← List.take_append_drop kk dk.toList, Pts_app]
                rw [List.take_left' (by rw [Pts_len, List.length_take]; simp; omega)]
              clear hO hfz
              have hkz : kk ≤ zs.length := by omega
              have hkc : kk ≤ c := by omega
              go_wp2
              exact HR.out (.slice (some ⟨g, 0, none⟩) kk c) _ (own_eq (hfin.out _).1 hln.out.symm rfl) (hfin.out _).2
        · have hkd : Hid (keeps zs.toArray k = true) := by
            refine keeps_pos ?_
            rw [B.out.1, B.out.2]
            intro e
            injection e with e1 e2
            subst e1 e2
            simp at hdiff
          have hnext : Hid (∀ j, j < k + 1 → keeps zs.toArray j = true) := by
            intro j hj
            by_cases e : j = k
            · subst e; exact hkd.out
            · exact hall.out j (by omega)
          clear B hkd
          have hdiff2 : (x1 == y1) = false ∨ (x1 = y1 ∧ (x2 == y2) = false) := by
            rcases hdiff with t | ⟨t, t'⟩
            · exact .inl t
            · exact .inr ⟨by simpa using t, t'⟩
          clear hdiff
          rcases hdiff2 with t2 | ⟨rfl, t2⟩
          all_goals
            go_wp2
            go_quiet (fail)
            go_wp2
            go_roundw
            case rel => exact ⟨k + 1, _, by omega, by omega, by go_num, rfl, hnext.out⟩
            case measure => simp [Go.RowKit.intOf]; omega
      · obtain rfl : k = zs.length := by omega
        go_wp2
        refine HR.out _ _ ?_ (hg0.dn _)
        rw [same.out hall.out]
        exact hown
