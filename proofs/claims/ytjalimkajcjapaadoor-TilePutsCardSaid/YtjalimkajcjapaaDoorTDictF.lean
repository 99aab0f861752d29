/-
  Dictionaries: tile.Dict; the reference's key, val, Dict.
-/
import Derived.Test.YtjalimkajcjapaaDoorChecked
import Derived.Test.YtjalimkajcjapaaDoorTAdd
import Derived.Test.YtjalimkajcjapaaDoorTSame
import Derived.Test.YtjalimkajcjapaaDoorTlA
namespace Go.Proofs.YtjalimkajcjapaaDoor
open Go.RowKit B

theorem dK_succ (K : List ByteArray) {B : List Atr} {j : Nat} (hj : j < B.length) : dK K ((B.take (j + 1)).map Atr.pl) = putL (dK K ((B.take j).map Atr.pl)) B[j].key := by
  rw [List.take_succ_eq_append_getElem hj, List.map_append]
  unfold dK
  rw [List.foldl_append]
  rfl
theorem dV_succ (V : List Val) {B : List Atr} {j : Nat} (hj : j < B.length) : dV V ((B.take (j + 1)).map Atr.pl) = putL (dV V ((B.take j).map Atr.pl)) (plainV B[j].val) := by
  rw [List.take_succ_eq_append_getElem hj, List.map_append]
  unfold dV
  rw [List.foldl_append]
  rfl
theorem dKF_succ {F : List FtR} {k : Nat} (hk : k < F.length) : dKF [] ((F.take (k + 1)).map FtR.pl) = dK (dKF [] ((F.take k).map FtR.pl)) (F[k].B.map Atr.pl) := by
  rw [List.take_succ_eq_append_getElem hk, List.map_append]
  unfold dKF
  rw [List.foldl_append]
  rfl
theorem dVF_succ {F : List FtR} {k : Nat} (hk : k < F.length) : dVF [] ((F.take (k + 1)).map FtR.pl) = dV (dVF [] ((F.take k).map FtR.pl)) (F[k].B.map Atr.pl) := by
  rw [List.take_succ_eq_append_getElem hk, List.map_append]
  unfold dVF
  rw [List.foldl_append]
  rfl
theorem dK_len (K : List ByteArray) (B : List Atr) (j : Nat) : (dK K ((B.take j).map Atr.pl)).length ≤ K.length + j := by
  have := fold_len Prod.fst ((B.take j).map Atr.pl) K
  rw [List.length_map, List.length_take] at this
  show (List.foldl (fun L b => putL L b.1) K ((B.take j).map Atr.pl)).length ≤ _
  omega
theorem dV_len (V : List Val) (B : List Atr) (j : Nat) : (dV V ((B.take j).map Atr.pl)).length ≤ V.length + j := by
  have := fold_len Prod.snd ((B.take j).map Atr.pl) V
  rw [List.length_map, List.length_take] at this
  show (List.foldl (fun L b => putL L b.2) V ((B.take j).map Atr.pl)).length ≤ _
  omega
/-- few features, few attributes -/
def Few (F : List FtR) : Prop := F.length ≤ 300 ∧ ∀ f ∈ F, f.B.length ≤ 300
theorem Few.lenK {F : List FtR} (h : Few F) (k : Nat) : (dKF [] ((F.take k).map FtR.pl)).length ≤ 90000 := by
  have := dKF_len ((F.take k).map FtR.pl) [] fun f hf => by
    obtain ⟨g, hg, rfl⟩ := List.mem_map.1 hf
    have := h.2 g (List.mem_of_mem_take hg)
    show (g.B.map Atr.pl).length ≤ 300
    rw [List.length_map]; exact this
  rw [List.length_map, List.length_take] at this
  have := h.1
  simp only [List.length_nil] at *
  have : min k F.length * 300 ≤ 300 * 300 := Nat.mul_le_mul_right _ (by omega)
  omega
theorem Few.lenV {F : List FtR} (h : Few F) (k : Nat) : (dVF [] ((F.take k).map FtR.pl)).length ≤ 90000 := by
  have := dVF_len ((F.take k).map FtR.pl) [] fun f hf => by
    obtain ⟨g, hg, rfl⟩ := List.mem_map.1 hf
    have := h.2 g (List.mem_of_mem_take hg)
    show (g.B.map Atr.pl).length ≤ 300
    rw [List.length_map]; exact this
  rw [List.length_map, List.length_take] at this
  have := h.1
  simp only [List.length_nil] at *
  have : min k F.length * 300 ≤ 300 * 300 := Nat.mul_le_mul_right _ (by omega)
  omega

theorem ix_first {α : Type} [DecidableEq α] {L : List α} {x : α} {k : Nat} (hk : k < L.length) (hx : L[k] = x) (hn : x ∉ L.take k) : x ∈ L ∧ ix L x = k := by
  refine ⟨hx ▸ List.getElem_mem hk, ?_⟩
  have e : L = L.take k ++ L[k] :: L.drop (k + 1) := by rw [← List.drop_eq_getElem_cons hk, List.take_append_drop]
  unfold ix
  rw [e, List.idxOf_append, if_neg hn, hx]
  simp
  omega
theorem notin_succ {α : Type} {L : List α} {x : α} {k : Nat} (hk : k < L.length) (hx : ¬ L[k] = x) (hn : x ∉ L.take k) : x ∉ L.take (k + 1) := by
  rw [List.take_succ_eq_append_getElem hk]
  intro h
  rcases List.mem_append.1 h with h | h
  · exact hn h
  · exact hx (List.mem_singleton.1 h).symm
def kix {α : Type} [DecidableEq α] (L : List α) (x : α) : Int := if x ∈ L then ((ix L x : Nat) : Int) else -1
theorem kix_in {α : Type} [DecidableEq α] {L : List α} {x : α} (h : x ∈ L) : kix L x = ((ix L x : Nat) : Int) := by unfold kix; rw [if_pos h]
theorem kix_out {α : Type} [DecidableEq α] {L : List α} {x : α} (h : x ∉ L) : kix L x = -1 := by unfold kix; rw [if_neg h]

set_option maxRecDepth 100000 in
set_option maxHeartbeats 1000000 in
theorem key_any (K : List ByteArray) (kv : Value) (s : ByteArray) (S : Nat → Prop) (w : World) (hk : Rd w S 1 kv K.length (strs K)) {R : Ending → World → Prop} (hR : R (.returned (.int .i64 (kix K s))) w) :
    Calls Tryd.prog 26 #[kv, .string s] w R := by
  have HR := Lib.hid hR
  have HK := Lib.hid hk
  obtain ⟨_, A, c, rfl, h1, h2, h3, h4⟩ := hk
  unfold maxLen at h2
  clear hR
  go_enter Tryd.func26, Tryd.ntmps26
  go_wp2
  go_loopw [5] (fun i wr => ∃ k : Nat, k ≤ K.length ∧ i = .int .i64 k ∧ Hid (s ∉ K.take k) ∧ wr = w) (fun i _ => K.length - (intOf i).toNat)
  case atStart => exact ⟨0, Nat.zero_le _, rfl, (by show _ ∉ _; simp), rfl⟩
  case round =>
    obtain ⟨k, hk, rfl, hn, rfl⟩ := hrel
    by_cases hlt : k < K.length
    · obtain ⟨b1, o1, rfl, hb1, hc1⟩ := h4 (by omega)
      have c1 : wr.cell? ⟨b1, o1 + k, none⟩ = some (.string K[k]) := hc1 k _ (by unfold strs; simp [hlt])
      have YS : Hid (K[k] = s → kix K s = k) := fun h => by
        obtain ⟨q1, q2⟩ := ix_first hlt h hn.out
        rw [kix_in q1, q2]
      have NO : Hid (¬ K[k] = s → s ∉ K.take (k + 1)) := fun h => notin_succ hlt h hn.out
      clear hc1 h4 h3 hn
      generalize K[k] = x at *
      by_cases hx : x.toList = s.toList
      · have Y2 := Lib.hid (YS.out (ba_inj hx))
        have t : (x.toList == s.toList) = true := by rw [beq_iff_eq]; exact hx
        clear YS NO hx
        go_wp2
        have h := HR.out
        rw [Y2.out] at h
        exact h
      · have N2 := Lib.hid (NO.out fun e => hx (by rw [e]))
        have t : (x.toList == s.toList) = false := by rw [beq_eq_false_iff_ne]; exact hx
        clear YS NO hx
        go_wp2
        go_roundw
        case rel => exact ⟨k + 1, by omega, by go_num, N2.out, by first | rfl | trivial⟩
        case measure => simp [intOf]; omega
    · obtain rfl : k = K.length := by omega
      rw [List.take_length] at hn
      have h := HR.out
      rw [kix_out hn.out] at h
      have HR := Lib.hid h
      clear h
      go_wp2
      exact HR.out

set_option maxRecDepth 100000 in
set_option maxHeartbeats 2000000 in
theorem val_any (V : List Val) (vv : Value) (x : Val) (S : Nat → Prop) (w : World) (hk : Rd w S 3 vv V.length (Vals V)) (hp : ∀ y ∈ V, plainV y = y) {R : Ending → World → Prop} (hR : ∀ w', Grow w w' → R (.returned (.int .i64 (kix V (plainV x)))) w') :
    Calls Tryd.prog 27 #[vv, x.v] w R := by
  have hk := hk.lt (by decide)
  have HR := Lib.hid hR
  have HP := Lib.hid hp
  obtain ⟨_, A, c, rfl, h1, h2, h3, h4⟩ := hk
  unfold maxLen at h2
  clear hR hp
  obtain ⟨xk, xt, xb⟩ := x
  have RS := Lib.hid fun (y : Val) W (R : Ending → World → Prop) hR => rsame_any y ⟨xk, xt, xb⟩ W (R := R) hR
  obtain ⟨p, hp⟩ : ∃ p, plainV ⟨xk, xt, xb⟩ = p := ⟨_, rfl⟩
  rw [hp] at HR RS
  clear hp
  unfold Val.v at *
  dsimp only at *
  have BX := Lib.hid (BoxH.laid #[.int .i64 xk, .string xt, .int .u64 xb] 44 (Grow.refl w))
  go_enter Tryd.func27, Tryd.ntmps27
  go_wp2
  generalize w.alloc (.cells #[.int .i64 xk, .string xt, .int .u64 xb] 44) = wa at *
  go_loopw [5] (fun i wr => ∃ k : Nat, k ≤ V.length ∧ i = .int .i64 k ∧ Hid (p ∉ V.take k) ∧ Hid (BoxH w w.heap.size #[.int .i64 xk, .string xt, .int .u64 xb] 44 wr)) (fun i _ => V.length - (intOf i).toNat)
  case atStart => exact ⟨0, Nat.zero_le _, rfl, (by show _ ∉ _; simp), BX.out⟩
  case round =>
    clear BX
    obtain ⟨k, hk, rfl, hn, hB⟩ := hrel
    by_cases hlt : k < V.length
    · obtain ⟨b1, o1, rfl, hb1, hc1⟩ := h4 (by omega)
      have e1 := fun W (h : Grow w W) => flat_cells Val.cells_len h hb1 hc1 hlt
      have PV := Lib.hid (HP.out V[k] (List.getElem_mem hlt))
      have YS : Hid (V[k] = p → kix V p = k) := fun h => by
        obtain ⟨q1, q2⟩ := ix_first hlt h hn.out
        rw [kix_in q1, q2]
      have NO : Hid (¬ V[k] = p → p ∉ V.take (k + 1)) := fun h => notin_succ hlt h hn.out
      clear hc1 h4 h3 hn
      generalize V[k] = y at *
      have E1 : Hid (∀ W, Grow w W → W.cell? ⟨b1, o1 + k * 3, none⟩ = some (.int .i64 y.k) ∧ W.cell? ⟨b1, o1 + k * 3 + 1, none⟩ = some (.string y.t) ∧ W.cell? ⟨b1, o1 + k * 3 + 2, none⟩ = some (.int .u64 y.b)) := fun W h => ⟨e1 W h 0 _ rfl, e1 W h 1 _ rfl, e1 W h 2 _ rfl⟩
      have R1 := Lib.hid fun W (R : Ending → World → Prop) hR => RS.out y W R hR
      rw [PV.out] at R1
      clear e1 RS PV
      go_wp2_with fail
      refine wp_region_lexT (fun W => BoxH w w.heap.size #[.int .i64 xk, .string xt, .int .u64 xb] 44 W) (hB.out.tr (Grow.refl _).dr) 5 [0, 1, 2, 3, 4] (by kernel_rfl) (by kernel_rfl) (by intro c a d v w h; cases d <;> exact h) ?_
      have HB := Lib.hid (hB.out.tr (Grow.refl wr).dr)
      clear hB
      generalize wr.drew = wd at *
      iterate 5 (apply lext_take; exact rfl; exact rfl; (intro W hW; obtain ⟨q0, q1, q2⟩ := E1.out W hW.grow; have x0 := hW.cell 0; have x1 := hW.cell 1; have x2 := hW.cell 2; (try clear hW); go_simp; with_reducible rfl); try simp only [Act.put, List.setIfInBounds_toArray, List.set_cons_zero, List.set_cons_succ])
      refine lext_nil ?_
      simp only [List.drop_succ_cons, List.drop_zero]
      go_wp2_with fail
      go_at_call 51
      refine R1.out _ _ ?_
      intro w1 hg1
      have HB1 := Lib.hid (HB.out.tr hg1)
      clear hg1 R1 E1 HB
      by_cases hx : y = p
      · rw [decide_eq_true hx]
        have Y2 := Lib.hid (YS.out hx)
        clear YS NO hx
        go_wp2
        have h := HR.out _ HB1.out.grow
        rw [Y2.out] at h
        exact h
      · rw [decide_eq_false hx]
        have N2 := Lib.hid (NO.out hx)
        clear YS NO hx
        go_wp2
        go_roundw
        case rel => exact ⟨k + 1, by omega, by go_num, N2.out, HB1.out⟩
        case measure => simp [intOf]; omega
    · obtain rfl : k = V.length := by omega
      rw [List.take_length] at hn
      have h := HR.out _ hB.out.grow
      rw [kix_out hn.out] at h
      have HR := Lib.hid h
      clear h
      go_wp2
      exact HR.out

theorem dV_plain (V : List Val) (l : List AtP) (hV : ∀ x ∈ V, plainV x = x) (hl : ∀ a ∈ l, plainV a.2 = a.2) : ∀ x ∈ dV V l, plainV x = x := fold_all Prod.snd (fun v => plainV v = v) l V hV hl
theorem plain_idem (x : Val) : plainV (plainV x) = plainV x := by
  unfold plainV
  by_cases h : x.k = 1 <;> simp [h]
theorem putL_in {α : Type} [DecidableEq α] {L : List α} {x : α} (h : x ∈ L) : putL L x = L := by unfold putL; rw [if_pos h]
theorem putL_out {α : Type} [DecidableEq α] {L : List α} {x : α} (h : x ∉ L) : putL L x = L ++ [x] := by unfold putL; rw [if_neg h]

/-- the keys and the values of a dictionary under way -/
structure RD (base : Nat) (kv vv : Value) (K : List ByteArray) (V : List Val) (W : World) : Prop where
  ok : W.ownsRow base 9 1 kv K.length (strs K)
  ov : W.ownsRow base 44 3 vv V.length (Vals V)
  pl : ∀ x ∈ V, plainV x = x
theorem RD.gr {base : Nat} {kv vv : Value} {K : List ByteArray} {V : List Val} {W W' : World} (h : RD base kv vv K V W) (hg : Grow W W') : RD base kv vv K V W' := ⟨own_grow h.ok hg, own_grow h.ov hg, h.pl⟩
theorem ne_or {o p : Option Nat} (h : ∀ j, o = some j → p ≠ some j) : o = none ∨ o ≠ p := by
  cases o with
  | none => exact .inl rfl
  | some k => exact .inr fun e => h k rfl e.symm

set_option maxRecDepth 100000 in
set_option maxHeartbeats 16000000 in
theorem rdict_any (fv : Value) (F : List FtR) (S S' : Nat → Prop) (w : World) (hv : Rd w S 5 fv F.length (Fts F)) (hF : ∀ f ∈ F, f.rd w S') (hn : Few F) {R : Ending → World → Prop}
    (hR : ∀ kv vv w', w'.ownsRow w.heap.size 9 1 kv (dKF [] (F.map FtR.pl)).length (strs (dKF [] (F.map FtR.pl))) → w'.ownsRow w.heap.size 44 3 vv (dVF [] (F.map FtR.pl)).length (Vals (dVF [] (F.map FtR.pl))) → Grow w w' → R (.returned (.tuple #[kv, vv])) w') :
    Calls Tryd.prog 24 #[fv] w R := by
  have hv := hv.lt (by decide)
  have HF := Lib.hid hF
  have HN := Lib.hid hn
  have HR := Lib.hid hR
  clear hR hF hn
  obtain ⟨_, A, c, rfl, h1, h2, h3, h4⟩ := hv
  unfold maxLen at h2
  go_enter Tryd.func24, Tryd.ntmps24
  go_wp2
  go_loopw [6, 4, 5] (fun i kv vv wr => ∃ k : Nat, k ≤ F.length ∧ i = .int .i64 k ∧ Hid (RD w.heap.size kv vv (dKF [] ((F.take k).map FtR.pl)) (dVF [] ((F.take k).map FtR.pl)) wr) ∧ Hid (Grow w wr)) (fun i _ _ _ => F.length - (intOf i).toNat)
  case atStart => exact ⟨0, Nat.zero_le _, rfl, ⟨World.ownsRow_nil _ _ _ _, World.ownsRow_nil _ _ _ _, by simp [dVF]⟩, Grow.refl _⟩
  case round =>
    obtain ⟨k, hk, rfl, hd, hg⟩ := hrel
    by_cases hlt : k < F.length
    · obtain ⟨b1, o1, rfl, hb1, hc1⟩ := h4 (by omega)
      have e1 := fun W (h : Grow w W) => flat_cells FtR.cells_len h hb1 hc1 hlt
      have RX := HF.out F[k] (List.getElem_mem hlt)
      have NX := Lib.hid (HN.out.2 F[k] (List.getElem_mem hlt))
      have TK := Lib.hid (dKF_succ hlt)
      have TV := Lib.hid (dVF_succ hlt)
      have LK := Lib.hid (HN.out.lenK k)
      have LV := Lib.hid (HN.out.lenV k)
      clear hc1 h4 h3
      generalize F[k] = x at *
      generalize dKF [] ((F.take k).map FtR.pl) = K0 at *
      generalize dVF [] ((F.take k).map FtR.pl) = V0 at *
      obtain ⟨⟨xh, xi, xt, xp, xv⟩, xA, xB⟩ := x
      obtain ⟨-, -, r3⟩ := RX
      dsimp only at r3 NX TK TV
      have r3 := r3.lt (by decide)
      obtain ⟨_, Y, cy, rfl, y1, y2, y3, y4⟩ := r3
      unfold maxLen at y2
      have E4 : Hid (∀ W, Grow w W → W.cell? ⟨b1, o1 + k * 5 + 4, none⟩ = some (.slice Y xB.length cy)) := fun W h => e1 W h 4 _ rfl
      clear e1
      go_wp2
      go_loopw [7, 4, 5] (fun i kv vv wr => ∃ j : Nat, j ≤ xB.length ∧ i = .int .i64 j ∧ Hid (RD w.heap.size kv vv (dK K0 ((xB.take j).map Atr.pl)) (dV V0 ((xB.take j).map Atr.pl)) wr) ∧ Hid (Grow w wr)) (fun i _ _ _ => xB.length - (intOf i).toNat)
      case atStart => exact ⟨0, Nat.zero_le _, rfl, hd.out, hg.out⟩
      case round =>
        clear hd hg
        obtain ⟨j, hj, rfl, hd, hg⟩ := hrel
        by_cases hjl : j < xB.length
        · obtain ⟨b2, o2, rfl, hb2, hc2⟩ := y4 (by omega)
          have c4 := E4.out wr hg.out
          have e2 := flat_cells Atr.cells_len hg.out hb2 hc2 hjl
          have SK := Lib.hid (dK_succ K0 hjl)
          have SV := Lib.hid (dV_succ V0 hjl)
          have MK := Lib.hid (dK_len K0 xB j)
          have MV := Lib.hid (dV_len V0 xB j)
          have BK : Hid ((dK K0 ((xB.take j).map Atr.pl)).length ≤ 100000) := by show _ ≤ _; have := LK.out; have := MK.out; have := NX.out; omega
          have BV : Hid ((dV V0 ((xB.take j).map Atr.pl)).length ≤ 100000) := by show _ ≤ _; have := LV.out; have := MV.out; have := NX.out; omega
          clear hc2 y4 y3 MK MV
          generalize xB[j] = y at *
          obtain ⟨yk, yv, yt, yb⟩ := y
          have d0 := e2 0 _ rfl
          have d1 := e2 1 _ rfl
          have d2 := e2 2 _ rfl
          have d3 := e2 3 _ rfl
          simp only [Nat.add_zero] at d0
          clear e2
          dsimp only at SK SV
          obtain ⟨Z1, Z2, rfl⟩ := own_slice hd.out.ok
          obtain ⟨Z3, Z4, rfl⟩ := own_slice hd.out.ov
          generalize hK1 : dK K0 ((xB.take j).map Atr.pl) = K1 at *
          generalize hV1 : dV V0 ((xB.take j).map Atr.pl) = V1 at *
          clear hK1 hV1
          have KA := Lib.hid fun (kv : Value) S W h (R : Ending → World → Prop) hR => key_any K1 kv yk S W h (R := R) hR
          have VA := Lib.hid fun (vv : Value) S W h (hp : ∀ y ∈ V1, plainV y = y) (R : Ending → World → Prop) hR => val_any V1 vv ⟨yv, yt, yb⟩ S W h hp (R := R) hR
          have PA := Lib.hid fun W (R : Ending → World → Prop) hR => rplain_any ⟨yv, yt, yb⟩ W (R := R) hR
          have PP := Lib.hid (plain_idem ⟨yv, yt, yb⟩)
          obtain ⟨p, hp⟩ : ∃ p, plainV ⟨yv, yt, yb⟩ = p := ⟨_, rfl⟩
          rw [hp] at SV VA PA PP
          clear hp
          unfold Val.v at VA PA
          dsimp only at VA PA
          go_wp2_with fail
          have D1 := Lib.hid (hd.out.gr ((Grow.refl wr).al (.cells #[.string yk, .int .i64 yv, .string yt, .int .u64 yb] 46)))
          have G1 := Lib.hid (hg.out.al (.cells #[.string yk, .int .i64 yv, .string yt, .int .u64 yb] 46))
          have BA : Hid ((wr.alloc (.cells #[.string yk, .int .i64 yv, .string yt, .int .u64 yb] 46)).heap[wr.heap.size]? = some (.cells #[.string yk, .int .i64 yv, .string yt, .int .u64 yb] 46 (0, 0))) := heap_alloc_new wr _
          generalize wr.alloc (.cells #[.string yk, .int .i64 yv, .string yt, .int .u64 yb] 46) = wa at *
          have z0 := cell_of_row wa wr.heap.size 0 _ _ (0, 0) BA.out
          have z1 := cell_of_row wa wr.heap.size 1 _ _ (0, 0) BA.out
          have z2 := cell_of_row wa wr.heap.size 2 _ _ (0, 0) BA.out
          have z3 := cell_of_row wa wr.heap.size 3 _ _ (0, 0) BA.out
          clear d0 d1 d2 d3 c4 hd hg
          go_at_call 26
          refine KA.out _ _ _ (Rd.own D1.out.ok) _ ?_
          by_cases hm : yk ∈ K1
          · have t4 : decide (kix K1 yk < 0) = false := by rw [kix_in hm]; exact decide_eq_false (by omega)
            have SK2 := Lib.hid (SK.out.trans (putL_in hm))
            clear hm KA
            generalize kix K1 yk = q0 at *
            go_wp2_with fail
            -- the second half: D : RD .. kvv (slice Z3 V1) K2 V1 wx, G : Grow w wx, cells z0.. of the box
            go_at_call 27
            refine VA.out _ _ _ (Rd.own D1.out.ov) D1.out.pl _ ?_
            intro w3 hg3
            have D3 := Lib.hid (D1.out.gr hg3)
            have G3 := Lib.hid (G1.out.tr hg3)
            have BA3 := Lib.hid ((hg3.block _ (lt_of_block BA.out)).trans BA.out)
            have u1 := cell_of_row w3 wr.heap.size 1 _ _ (0, 0) BA3.out
            have u2 := cell_of_row w3 wr.heap.size 2 _ _ (0, 0) BA3.out
            have u3 := cell_of_row w3 wr.heap.size 3 _ _ (0, 0) BA3.out
            clear hg3 z0 z1 z2 z3
            by_cases hv : p ∈ V1
            · have t5 : decide (kix V1 p < 0) = false := by rw [kix_in hv]; exact decide_eq_false (by omega)
              have SV2 := Lib.hid (SV.out.trans (putL_in hv))
              clear hv
              generalize kix V1 p = q at *
              go_wp2
              go_roundw
              case rel => exact ⟨j + 1, by omega, by go_num, (by show RD _ _ _ _ _ _; rw [SK2.out, SV2.out]; exact D3.out), G3.out⟩
              case measure => simp [intOf]; omega
            · have t5 : decide (kix V1 p < 0) = true := by rw [kix_out hv]; rfl
              have SV2 := Lib.hid (SV.out.trans (putL_out hv))
              clear hv
              generalize kix V1 p = q at *
              go_wp2_with fail
              go_at_call 50
              refine PA.out _ _ ?_
              intro w5 hg5
              have D5 := Lib.hid (D3.out.gr hg5)
              have G5 := Lib.hid (G3.out.tr hg5)
              clear hg5 D3 G3 u1 u2 u3 BA3
              go_wp2_with (at_builtin; refine wpList_put rfl _ _ rfl el_val D5.out.ov rfl 1 _ rfl _ rfl (by decide) rfl (by simp [Value.oneCell']) (by have := BV.out; omega) G5.out.size ?_; intro v6 w6 hown6 hgr6 hb6)
              have D6 : Hid (RD w.heap.size (.slice Z1 K1.length Z2) v6 K1 (V1 ++ [p]) w6) := ⟨D5.out.ok.kept hgr6 (ne_or (own_ne_own D5.out.ok D5.out.ov (by decide))), own_eq hown6 (by simp) (by simp [Vals, Val.cells]), fun x hx => by
                rcases List.mem_append.1 hx with hx | hx
                · exact D5.out.pl x hx
                · rw [List.mem_singleton.1 hx]; exact PP.out⟩
              have G6 : Hid (Grow w w6) := grow_app G5.out hgr6 (own_ge D5.out.ov)
              clear hown6 hgr6 hb6
              go_roundw
              case rel => exact ⟨j + 1, by omega, by go_num, (by show RD _ _ _ _ _ _; rw [SK2.out, SV2.out]; exact D6.out), G6.out⟩
              case measure => simp [intOf]; omega
          · have t4 : decide (kix K1 yk < 0) = true := by rw [kix_out hm]; rfl
            have SK2 := Lib.hid (SK.out.trans (putL_out hm))
            clear hm KA
            generalize kix K1 yk = q0 at *
            go_wp2_with (at_builtin; refine wpList_put rfl _ _ rfl el_str D1.out.ok rfl 1 _ rfl _ rfl (by decide) rfl (by simp [Value.oneCell']) (by have := BK.out; omega) G1.out.size ?_; intro v2 w2 hown2 hgr2 hb2; have BA2 := Lib.hid ((hgr2.block _ (lt_of_block BA.out) (fun e => own_ne_box D1.out.ok BA.out (by decide) e.symm)).trans BA.out); have y1 := cell_of_row w2 wr.heap.size 1 _ _ (0, 0) BA2.out; have y2 := cell_of_row w2 wr.heap.size 2 _ _ (0, 0) BA2.out; have y3 := cell_of_row w2 wr.heap.size 3 _ _ (0, 0) BA2.out)
            have D2 : Hid (RD w.heap.size v2 (.slice Z3 V1.length Z4) (K1 ++ [yk]) V1 w2) := ⟨own_eq hown2 (by simp) (by simp [strs]), D1.out.ov.kept hgr2 (ne_or (own_ne_own D1.out.ov D1.out.ok (by decide))), D1.out.pl⟩
            have G2 : Hid (Grow w w2) := grow_app G1.out hgr2 (own_ge D1.out.ok)
            clear hown2 hgr2 hb2 D1 G1 z0 z1 z2 z3 BA
            -- the second half: D : RD .. kvv (slice Z3 V1) K2 V1 wx, G : Grow w wx, cells z0.. of the box
            go_at_call 27
            refine VA.out _ _ _ (Rd.own D2.out.ov) D2.out.pl _ ?_
            intro w3 hg3
            have D3 := Lib.hid (D2.out.gr hg3)
            have G3 := Lib.hid (G2.out.tr hg3)
            have BA3 := Lib.hid ((hg3.block _ (lt_of_block BA2.out)).trans BA2.out)
            have u1 := cell_of_row w3 wr.heap.size 1 _ _ (0, 0) BA3.out
            have u2 := cell_of_row w3 wr.heap.size 2 _ _ (0, 0) BA3.out
            have u3 := cell_of_row w3 wr.heap.size 3 _ _ (0, 0) BA3.out
            clear hg3 y1 y2 y3
            by_cases hv : p ∈ V1
            · have t5 : decide (kix V1 p < 0) = false := by rw [kix_in hv]; exact decide_eq_false (by omega)
              have SV2 := Lib.hid (SV.out.trans (putL_in hv))
              clear hv
              generalize kix V1 p = q at *
              go_wp2
              go_roundw
              case rel => exact ⟨j + 1, by omega, by go_num, (by show RD _ _ _ _ _ _; rw [SK2.out, SV2.out]; exact D3.out), G3.out⟩
              case measure => simp [intOf]; omega
            · have t5 : decide (kix V1 p < 0) = true := by rw [kix_out hv]; rfl
              have SV2 := Lib.hid (SV.out.trans (putL_out hv))
              clear hv
              generalize kix V1 p = q at *
              go_wp2_with fail
              go_at_call 50
              refine PA.out _ _ ?_
              intro w5 hg5
              have D5 := Lib.hid (D3.out.gr hg5)
              have G5 := Lib.hid (G3.out.tr hg5)
              clear hg5 D3 G3 u1 u2 u3 BA3
              go_wp2_with (at_builtin; refine wpList_put rfl _ _ rfl el_val D5.out.ov rfl 1 _ rfl _ rfl (by decide) rfl (by simp [Value.oneCell']) (by have := BV.out; omega) G5.out.size ?_; intro v6 w6 hown6 hgr6 hb6)
              have D6 : Hid (RD w.heap.size v2 v6 (K1 ++ [yk]) (V1 ++ [p]) w6) := ⟨D5.out.ok.kept hgr6 (ne_or (own_ne_own D5.out.ok D5.out.ov (by decide))), own_eq hown6 (by simp) (by simp [Vals, Val.cells]), fun x hx => by
                rcases List.mem_append.1 hx with hx | hx
                · exact D5.out.pl x hx
                · rw [List.mem_singleton.1 hx]; exact PP.out⟩
              have G6 : Hid (Grow w w6) := grow_app G5.out hgr6 (own_ge D5.out.ov)
              clear hown6 hgr6 hb6
              go_roundw
              case rel => exact ⟨j + 1, by omega, by go_num, (by show RD _ _ _ _ _ _; rw [SK2.out, SV2.out]; exact D6.out), G6.out⟩
              case measure => simp [intOf]; omega
        · obtain rfl : j = xB.length := by omega
          have c4 := E4.out wr hg.out
          have D2 := hd.out
          rw [List.take_length, ← TK.out, ← TV.out] at D2
          have D2 := Lib.hid D2
          clear hd
          go_wp2
          go_roundw
          case rel => exact ⟨k + 1, by omega, by go_num, D2.out, hg.out⟩
          case measure => simp [intOf]; omega
    · obtain rfl : k = F.length := by omega
      rw [List.take_length] at hd
      have HR2 := Lib.hid (HR.out _ _ _ hd.out.ok hd.out.ov hg.out)
      clear hd HR
      go_wp2
      exact HR2.out
end Go.Proofs.YtjalimkajcjapaaDoor
