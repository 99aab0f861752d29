/-
  Dictionaries: newDict, add, Dict.
-/
import Derived.Test.YtjalimkajcjapaaDoorChecked
import Derived.Test.YtjalimkajcjapaaDoorTDict
import Derived.Test.YtjalimkajcjapaaDoorLexU
import Derived.Test.YtjalimkajcjapaaDoorWireA
import Derived.Carry
namespace Go.Proofs.YtjalimkajcjapaaDoor
open Go.RowKit B

theorem Tn_set (w : World) (b i : Nat) (v : Value) : Tn (fun j => j = b) w (w.setCell ⟨b, i, none⟩ v) :=
  ⟨rfl, rfl, rfl, by rw [size_setCell]; exact Nat.le_refl _, fun k _ hne => by
    have e : ¬ b = k := fun e => hne e.symm
    simp [World.setCell, Array.getElem?_modify, e]⟩
/-- a dictionary as it lies -/
structure Dd where
  db : Nat
  ck : Nat
  cv : Nat
  kv : Value
  vv : Value
def Dd.has (d : Dd) (j : Nat) : Prop := j = d.db ∨ j = d.ck ∨ j = d.cv ∨ d.kv.ownBlock = some j ∨ d.vv.ownBlock = some j
structure DSt (base : Nat) (d : Dd) (K : List ByteArray) (V : List Val) (W : World) : Prop where
  box : W.heap[d.db]? = some (.cells #[d.kv, d.vv, .map (some d.ck), .map (some d.cv)] 59 (0, 0))
  ge : base ≤ d.db ∧ base ≤ d.ck ∧ base ≤ d.cv
  hb : base ≤ W.heap.size
  ok : W.ownsRow base 9 1 d.kv K.length (strs K)
  ov : W.ownsRow base 44 3 d.vv V.length (Vals V)
  ck : MapF Tryd.prog 9 W d.ck K.length (idxF Value.string K)
  cv : MapF Tryd.prog 44 W d.cv V.length (idxF Val.v V)
  ne : d.ck ≠ d.cv
section
variable {base : Nat} {d : Dd} {K : List ByteArray} {V : List Val} {w w' w1 : World}
theorem DSt.lt (h : DSt base d K V w) {j : Nat} (hj : d.has j) : j < w.heap.size := by
  rcases hj with rfl | rfl | rfl | e | e
  · exact lt_of_block h.box
  · exact h.ck.lt
  · exact h.cv.lt
  · exact (h.ok.lt j e).2
  · exact (h.ov.lt j e).2
theorem DSt.le (h : DSt base d K V w) {j : Nat} (hj : d.has j) : base ≤ j := by
  rcases hj with rfl | rfl | rfl | e | e
  · exact h.ge.1
  · exact h.ge.2.1
  · exact h.ge.2.2
  · exact (h.ok.lt j e).1
  · exact (h.ov.lt j e).1
theorem DSt.tn {D : Nat → Prop} (h : DSt base d K V w) (ht : Tn D w w') (hD : ∀ j, d.has j → ¬ D j) : DSt base d K V w' :=
  ⟨ht.blk h.box (hD _ (.inl rfl)), h.ge, Nat.le_trans h.hb ht.size, Tn.own h.ok ht fun _ e => hD _ (.inr (.inr (.inr (.inl e)))), Tn.own h.ov ht fun _ e => hD _ (.inr (.inr (.inr (.inr e)))),
    Tn.map h.ck ht (hD _ (.inr (.inl rfl))), Tn.map h.cv ht (hD _ (.inr (.inr (.inl rfl)))), h.ne⟩
theorem DSt.gr (h : DSt base d K V w) (hg : Grow w w') : DSt base d K V w' := h.tn (D := fun _ => False) (Tn.of hg) fun _ _ h => h
/-- a key more -/
theorem DSt.key (h : DSt base d K V w) {K1 : List ByteArray} {kv1 : Value} (hO : w1.ownsRow base 9 1 kv1 K1.length (strs K1)) (hM : MapF Tryd.prog 9 w1 d.ck K1.length (idxF Value.string K1)) (ht : Tn (fun j => j = d.ck ∨ d.kv.ownBlock = some j) w w1)
    (hb : kv1.ownBlock = d.kv.ownBlock ∨ ∃ k, kv1.ownBlock = some k ∧ w.heap.size ≤ k) :
    DSt base ⟨d.db, d.ck, d.cv, kv1, d.vv⟩ K1 V (w1.setCell ⟨d.db, 0, none⟩ kv1) ∧ Tn d.has w (w1.setCell ⟨d.db, 0, none⟩ kv1) ∧ ∀ j, (Dd.mk d.db d.ck d.cv kv1 d.vv).has j → d.has j ∨ w.heap.size ≤ j := by
  have nb : ¬ (d.db = d.ck ∨ d.kv.ownBlock = some d.db) := by
    rintro (e | e)
    · exact h.ck.ne_box h.box e
    · exact own_ne_box h.ok h.box (by decide) e
  have nv : ∀ k, d.vv.ownBlock = some k → ¬ (k = d.ck ∨ d.kv.ownBlock = some k) := by
    rintro k e (rfl | e2)
    · exact h.ck.ne_own h.ov e
    · exact own_ne_own h.ok h.ov (by decide) k e2 e
  have nm : ¬ (d.cv = d.ck ∨ d.kv.ownBlock = some d.cv) := by
    rintro (e | e)
    · exact h.ne e.symm
    · exact h.cv.ne_own h.ok e
  have hbox := ht.blk h.box nb
  have ts := Tn_set w1 d.db 0 kv1
  have hv := Tn.own h.ov ht nv
  have hm := Tn.map h.cv ht nm
  refine ⟨⟨?_, h.ge, ?_, Tn.own hO ts fun k e e2 => own_ne_box hO hbox (by decide) (e2 ▸ e), Tn.own hv ts fun k e e2 => own_ne_box hv hbox (by decide) (e2 ▸ e), Tn.map hM ts fun e => hM.ne_box hbox e.symm, Tn.map hm ts fun e => hm.ne_box hbox e.symm, h.ne⟩, ?_, ?_⟩
  · have := blk_set hbox 0 kv1
    simpa using this
  · rw [size_setCell]; exact Nat.le_trans h.hb ht.size
  · refine Tn.tr (ht.into fun j hj => ?_) ts fun j _ e => .inl e
    rcases hj with rfl | e
    · exact .inr (.inl rfl)
    · exact .inr (.inr (.inr (.inl e)))
  · rintro j (rfl | rfl | rfl | e | e)
    · exact .inl (.inl rfl)
    · exact .inl (.inr (.inl rfl))
    · exact .inl (.inr (.inr (.inl rfl)))
    · rcases hb with e2 | ⟨k, e2, hk⟩
      · exact .inl (.inr (.inr (.inr (.inl (e2 ▸ e)))))
      · exact .inr (by rw [e2] at e; injection e with e; omega)
    · exact .inl (.inr (.inr (.inr (.inr e))))
/-- a value more -/
theorem DSt.val (h : DSt base d K V w) {V1 : List Val} {vv1 : Value} (hO : w1.ownsRow base 44 3 vv1 V1.length (Vals V1)) (hM : MapF Tryd.prog 44 w1 d.cv V1.length (idxF Val.v V1)) (ht : Tn (fun j => j = d.cv ∨ d.vv.ownBlock = some j) w w1)
    (hb : vv1.ownBlock = d.vv.ownBlock ∨ ∃ k, vv1.ownBlock = some k ∧ w.heap.size ≤ k) :
    DSt base ⟨d.db, d.ck, d.cv, d.kv, vv1⟩ K V1 (w1.setCell ⟨d.db, 1, none⟩ vv1) ∧ Tn d.has w (w1.setCell ⟨d.db, 1, none⟩ vv1) ∧ ∀ j, (Dd.mk d.db d.ck d.cv d.kv vv1).has j → d.has j ∨ w.heap.size ≤ j := by
  have nb : ¬ (d.db = d.cv ∨ d.vv.ownBlock = some d.db) := by
    rintro (e | e)
    · exact h.cv.ne_box h.box e
    · exact own_ne_box h.ov h.box (by decide) e
  have nv : ∀ k, d.kv.ownBlock = some k → ¬ (k = d.cv ∨ d.vv.ownBlock = some k) := by
    rintro k e (rfl | e2)
    · exact h.cv.ne_own h.ok e
    · exact own_ne_own h.ok h.ov (by decide) k e e2
  have nm : ¬ (d.ck = d.cv ∨ d.vv.ownBlock = some d.ck) := by
    rintro (e | e)
    · exact h.ne e
    · exact h.ck.ne_own h.ov e
  have hbox := ht.blk h.box nb
  have ts := Tn_set w1 d.db 1 vv1
  have hv := Tn.own h.ok ht nv
  have hm := Tn.map h.ck ht nm
  refine ⟨⟨?_, h.ge, ?_, Tn.own hv ts fun k e e2 => own_ne_box hv hbox (by decide) (e2 ▸ e), Tn.own hO ts fun k e e2 => own_ne_box hO hbox (by decide) (e2 ▸ e), Tn.map hm ts fun e => hm.ne_box hbox e.symm, Tn.map hM ts fun e => hM.ne_box hbox e.symm, h.ne⟩, ?_, ?_⟩
  · have := blk_set hbox 1 vv1
    simpa using this
  · rw [size_setCell]; exact Nat.le_trans h.hb ht.size
  · refine Tn.tr (ht.into fun j hj => ?_) ts fun j _ e => .inl e
    rcases hj with rfl | e
    · exact .inr (.inr (.inl rfl))
    · exact .inr (.inr (.inr (.inr e)))
  · rintro j (rfl | rfl | rfl | e | e)
    · exact .inl (.inl rfl)
    · exact .inl (.inr (.inl rfl))
    · exact .inl (.inr (.inr (.inl rfl)))
    · exact .inl (.inr (.inr (.inr (.inl e))))
    · rcases hb with e2 | ⟨k, e2, hk⟩
      · exact .inl (.inr (.inr (.inr (.inr (e2 ▸ e)))))
      · exact .inr (by rw [e2] at e; injection e with e; omega)
end

set_option maxRecDepth 100000 in
set_option maxHeartbeats 2000000 in
theorem add_any (a : Atr) (ha : a.ok) (base : Nat) (d : Dd) (Ks : List ByteArray) (Vs : List Val) (w : World) (h : DSt base d Ks Vs w) (hK : Ks.length ≤ 900000) (hV : Vs.length ≤ 900000) {R : Ending → World → Prop}
    (hR : ∀ d' w', DSt base d' (putL Ks a.key) (putL Vs (plainV a.val)) w' → Tn d.has w w' → d'.db = d.db → (∀ j, d'.has j → d.has j ∨ w.heap.size ≤ j) →
      R (.returned (.tuple #[.int .i64 ((ix (putL Ks a.key) a.key : Nat) : Int), .int .i64 ((ix (putL Vs (plainV a.val)) (plainV a.val) : Nat) : Int)])) w') :
    Calls Tryd.prog 33 #[.pointer (some ⟨d.db, 0, none⟩), .agg a.cells.toArray] w R := by
  have HR := Lib.hid hR
  have HA := Lib.hid ha
  clear hR ha
  obtain ⟨ak, av, at_, ab⟩ := a
  unfold Atr.cells
  dsimp only at *
  have BA : Hid ((w.alloc (.cells #[.string ak, .int .i64 av, .string at_, .int .u64 ab] 46)).heap[w.heap.size]? = some (.cells #[.string ak, .int .i64 av, .string at_, .int .u64 ab] 46 (0, 0))) := heap_alloc_new w _
  have T0 : Hid (Tn d.has w (w.alloc (.cells #[.string ak, .int .i64 av, .string at_, .int .u64 ab] 46))) := Tn.of ((Grow.refl w).al _)
  have H0 := Lib.hid (h.gr ((Grow.refl w).al (.cells #[.string ak, .int .i64 av, .string at_, .int .u64 ab] 46)))
  have NA : Hid (¬ d.has w.heap.size) := fun e => by have := h.lt e; omega
  clear h
  go_enter Tryd.func33, Tryd.ntmps33
  go_wp2_with fail
  generalize w.alloc (.cells #[.string ak, .int .i64 av, .string at_, .int .u64 ab] 46) = wa at *
  have H0 := Lib.hid (H0.out.gr (Grow.refl wa).dr)
  have BA : Hid (wa.drew.heap[w.heap.size]? = some (.cells #[.string ak, .int .i64 av, .string at_, .int .u64 ab] 46 (0, 0))) := BA.out
  have T0 : Hid (Tn d.has w wa.drew) := T0.out.tr (E := d.has) (Tn.of (Grow.refl wa).dr) fun _ _ h => h
  refine wp_region_lexU (fun W => W.heap[d.db]? = some (.cells #[d.kv, d.vv, .map (some d.ck), .map (some d.cv)] 59 (0, 0)) ∧ W.heap[w.heap.size]? = some (.cells #[.string ak, .int .i64 av, .string at_, .int .u64 ab] 46 (0, 0))) (⟨H0.out.box, BA.out⟩) 18 17 [0, 1, 2, 3, 4, 5, 6, 7, 8, 9, 10, 11, 12, 13, 14, 15, 16] (by kernel_rfl) (by kernel_rfl) (by intro c a d v w h; cases d <;> exact h) ?_
  generalize wa.drew = wd at *
  iterate 11 (first | (apply lexu_pure; exact rfl; exact rfl; (intro W; go_simp; with_reducible rfl); try simp only [Act.put, List.setIfInBounds_toArray, List.set_cons_zero, List.set_cons_succ]) | (apply lexu_take; exact rfl; exact rfl; kernel_rfl; (intro W hW; have x0 := cell_of_row W d.db 0 _ _ (0, 0) hW.1; have x2 := cell_of_row W d.db 2 _ _ (0, 0) hW.1; have y0 := cell_of_row W w.heap.size 0 _ _ (0, 0) hW.2; (try clear hW); go_simp; with_reducible rfl); try simp only [Act.put, List.setIfInBounds_toArray, List.set_cons_zero, List.set_cons_succ]))
  apply lexu_turn; exact rfl; exact rfl; exact rfl; intro K hK; go_simp; go_at_call 57; refine place_s Ks d.kv d.ck ak base wd H0.out.ok H0.out.ck (strKey HA.out.1) (by omega) H0.out.hb ?_
  intro kv1 w1 hO1 hM1 hT1 hb1
  obtain ⟨Y1, Y2, rfl⟩ := own_slice hO1
  obtain ⟨S1, U1, N1⟩ := H0.out.key hO1 hM1 hT1 hb1
  have nb : ¬ (d.db = d.ck ∨ d.kv.ownBlock = some d.db) := by
    rintro (e | e)
    · exact H0.out.ck.ne_box H0.out.box e
    · exact own_ne_box H0.out.ok H0.out.box (by decide) e
  have BD := Lib.hid (hT1.blk H0.out.box nb)
  have BA1 := Lib.hid (hT1.blk BA.out fun e => NA.out (by rcases e with e | e; exact .inr (.inl e); exact .inr (.inr (.inr (.inl e)))))
  refine hK.out _ _ ⟨BD.out, BA1.out⟩ ?_
  clear hK hO1 hM1 hT1 hb1 nb
  have S1 := Lib.hid S1
  have N1 := Lib.hid N1
  have U1 := Lib.hid (T0.out.tr U1 fun _ _ h => h)
  try simp only [Act.put, List.setIfInBounds_toArray, List.set_cons_zero, List.set_cons_succ]
  iterate 5 (first | (apply lexu_pure; exact rfl; exact rfl; (intro W; go_simp; with_reducible rfl); try simp only [Act.put, List.setIfInBounds_toArray, List.set_cons_zero, List.set_cons_succ]) | (apply lexu_take; exact rfl; exact rfl; kernel_rfl; (intro W hW; (try clear hW); go_simp; with_reducible rfl); try simp only [Act.put, List.setIfInBounds_toArray, List.set_cons_zero, List.set_cons_succ]))
  have f0 := frozen_of_row w1 d.db 0 _ _ BD.out
  have x0 := cell_of_row w1 d.db 0 _ _ (0, 0) BD.out
  apply lexu_nil; exact rfl; exact rfl; intro K hK; skip; go_simp; refine hK.out _ _ ?_; clear hK; try simp only [Act.put, List.setIfInBounds_toArray, List.set_cons_zero, List.set_cons_succ]
  simp only [List.drop_succ_cons, List.drop_zero]
  have BA2 : Hid ((w1.setCell ⟨d.db, 0, none⟩ (.slice Y1 (putL Ks ak).length Y2)).heap[w.heap.size]? = some (.cells #[.string ak, .int .i64 av, .string at_, .int .u64 ab] 46 (0, 0))) := (Tn_set w1 d.db 0 (.slice Y1 (putL Ks ak).length Y2)).blk BA1.out fun e => NA.out (.inl e)
  have LT := Lib.hid (lt_of_block BA.out)
  have LS := Lib.hid T0.out.size
  clear f0 x0 BA1 BA BD H0 T0
  generalize w1.setCell ⟨d.db, 0, none⟩ (.slice Y1 (putL Ks ak).length Y2) = w2 at *
  go_wp2_with fail
  generalize putL Ks ak = K1 at *
  obtain ⟨x, hx⟩ : ∃ x, plainV ⟨av, at_, ab⟩ = x := ⟨_, rfl⟩
  have PV := Lib.hid fun W (R : Ending → World → Prop) hR => plain_any ⟨av, at_, ab⟩ W (R := R) hR
  unfold Val.v at PV
  dsimp only at PV
  rw [hx] at PV HR
  have XK : Hid (∃ kl, keyOf Tryd.prog 44 x.v = some kl) := by
    show ∃ _, _
    rw [← hx]
    have hz : (⟨#[]⟩ : ByteArray).size ≤ maxLen := Nat.zero_le _
    unfold plainV
    split
    · exact valKey (x := ⟨1, at_, 0⟩) (by unfold I64; simp) (by unfold U64; simp) HA.out.2.2.2
    · exact valKey (x := ⟨av, ⟨#[]⟩, ab⟩) HA.out.2.1 HA.out.2.2.1 hz
  clear hx
  have S1 := Lib.hid (S1.out.gr (Grow.refl w2).dr)
  have BA2 : Hid (w2.drew.heap[w.heap.size]? = some (.cells #[.string ak, .int .i64 av, .string at_, .int .u64 ab] 46 (0, 0))) := BA2.out
  have U1 : Hid (Tn d.has w w2.drew) := U1.out.tr (E := d.has) (Tn.of (Grow.refl w2).dr) fun _ _ h => h
  have NA2 : Hid (¬ (Dd.mk d.db d.ck d.cv (.slice Y1 K1.length Y2) d.vv).has w.heap.size) := fun e => by
    rcases N1.out _ e with e | e
    · exact NA.out e
    · have := LT.out; omega
  refine wp_region_lexU (fun W => W.heap[d.db]? = some (.cells #[.slice Y1 K1.length Y2, d.vv, .map (some d.ck), .map (some d.cv)] 59 (0, 0)) ∧ W.heap[w.heap.size]? = some (.cells #[.string ak, .int .i64 av, .string at_, .int .u64 ab] 46 (0, 0))) (⟨S1.out.box, BA2.out⟩) 19 18 [0, 1, 2, 3, 4, 5, 6, 7, 8, 9, 10, 11, 12, 13, 14, 15, 16, 17] (by kernel_rfl) (by kernel_rfl) (by intro c a d v w h; cases d <;> exact h) ?_
  generalize w2.drew = wd2 at *
  iterate 11 (first | (apply lexu_pure; exact rfl; exact rfl; (intro W; go_simp; with_reducible rfl); try simp only [Act.put, List.setIfInBounds_toArray, List.set_cons_zero, List.set_cons_succ]) | (apply lexu_take; exact rfl; exact rfl; kernel_rfl; (intro W hW; have x1 := cell_of_row W d.db 1 _ _ (0, 0) hW.1; have x3 := cell_of_row W d.db 3 _ _ (0, 0) hW.1; have y1 := cell_of_row W w.heap.size 1 _ _ (0, 0) hW.2; have y2 := cell_of_row W w.heap.size 2 _ _ (0, 0) hW.2; have y3 := cell_of_row W w.heap.size 3 _ _ (0, 0) hW.2; (try clear hW); go_simp; with_reducible rfl); try simp only [Act.put, List.setIfInBounds_toArray, List.set_cons_zero, List.set_cons_succ]))
  apply lexu_turn; exact rfl; exact rfl; exact rfl; intro K hK; go_simp; go_at_call 59; refine PV.out _ _ ?_
  intro w3 hg3
  have S2 := Lib.hid (S1.out.gr hg3)
  have BA3 := Lib.hid ((hg3.block _ (lt_of_block BA2.out)).trans BA2.out)
  have U2 := Lib.hid (U1.out.tr (E := d.has) (Tn.of hg3) fun _ _ h => h)
  refine hK.out _ _ ⟨S2.out.box, BA3.out⟩ ?_
  clear hK hg3 S1 BA2 PV
  try simp only [Act.put, List.setIfInBounds_toArray, List.set_cons_zero, List.set_cons_succ]
  apply lexu_turn; exact rfl; exact rfl; exact rfl; intro K hK; go_simp; go_at_call 58; refine place_v Vs d.vv d.cv x base w3 S2.out.ov S2.out.cv XK.out (by omega) S2.out.hb ?_
  intro vv1 w4 hO1 hM1 hT1 hb1
  obtain ⟨Z1, Z2, rfl⟩ := own_slice hO1
  obtain ⟨S3, U3, N3⟩ := S2.out.val hO1 hM1 hT1 hb1
  have nb : ¬ (d.db = d.cv ∨ d.vv.ownBlock = some d.db) := by
    rintro (e | e)
    · exact S2.out.cv.ne_box S2.out.box e
    · exact own_ne_box S2.out.ov S2.out.box (by decide) e
  have BD := Lib.hid (hT1.blk S2.out.box nb)
  have BA4 := Lib.hid (hT1.blk BA3.out fun e => NA2.out (by rcases e with e | e; exact .inr (.inr (.inl e)); exact .inr (.inr (.inr (.inr e)))))
  refine hK.out _ _ ⟨BD.out, BA4.out⟩ ?_
  clear hK hO1 hM1 hT1 hb1 nb
  try simp only [Act.put, List.setIfInBounds_toArray, List.set_cons_zero, List.set_cons_succ]
  iterate 5 (first | (apply lexu_pure; exact rfl; exact rfl; (intro W; go_simp; with_reducible rfl); try simp only [Act.put, List.setIfInBounds_toArray, List.set_cons_zero, List.set_cons_succ]) | (apply lexu_take; exact rfl; exact rfl; kernel_rfl; (intro W hW; (try clear hW); go_simp; with_reducible rfl); try simp only [Act.put, List.setIfInBounds_toArray, List.set_cons_zero, List.set_cons_succ]))
  have f1 := frozen_of_row w4 d.db 1 _ _ BD.out
  have x1 := cell_of_row w4 d.db 1 _ _ (0, 0) BD.out
  apply lexu_nil; exact rfl; exact rfl; intro K hK; skip; go_simp; refine hK.out _ _ ?_; clear hK; try simp only [Act.put, List.setIfInBounds_toArray, List.set_cons_zero, List.set_cons_succ]
  simp only [List.drop_succ_cons, List.drop_zero]
  have S3 := Lib.hid S3
  have N3 := Lib.hid N3
  have U3 := Lib.hid U3
  clear BD BA4 BA3 f1 x1
  generalize w4.setCell ⟨d.db, 1, none⟩ (.slice Z1 (putL Vs x).length Z2) = w5 at *
  go_wp2
  refine HR.out _ _ S3.out ?_ rfl ?_
  · refine U2.out.tr U3.out fun j hj e => ?_
    rcases N1.out _ e with e | e
    · exact e
    · have := LS.out; omega
  · intro j e
    rcases N3.out _ e with e | e
    · rcases N1.out _ e with e | e
      · exact .inl e
      · exact .inr (by have := LS.out; omega)
    · exact .inr (by have := U2.out.size; omega)

theorem dst_new (w : World) : DSt w.heap.size ⟨w.heap.size + 2, w.heap.size, w.heap.size + 1, .slice none 0 0, .slice none 0 0⟩ [] []
    (((w.alloc (.map #[] 0)).alloc (.map #[] 0)).alloc (.cells #[.slice none 0 0, .slice none 0 0, .map (some w.heap.size), .map (some (w.heap.size + 1))] 59)) := by
  have m1 := MapF.made w Tryd.prog 9
  have m2 := MapF.made (w.alloc (.map #[] 0)) Tryd.prog 44
  have b := heap_alloc_new ((w.alloc (.map #[] 0)).alloc (.map #[] 0)) (.cells #[.slice none 0 0, .slice none 0 0, .map (some w.heap.size), .map (some (w.heap.size + 1))] 59)
  simp only [World.size_alloc] at m2 b
  refine ⟨b, ⟨by show _ ≤ _ + 2; omega, Nat.le_refl _, by show _ ≤ _ + 1; omega⟩, by simp only [World.size_alloc]; omega, World.ownsRow_nil _ _ _ _, World.ownsRow_nil _ _ _ _, ?_, ?_, by dsimp only; omega⟩
  · rw [idxF_nil]
    exact m1.gr (((Grow.refl _).al _).al _)
  · rw [idxF_nil]
    exact m2.gr ((Grow.refl _).al _)
set_option maxRecDepth 100000 in
set_option maxHeartbeats 1000000 in
theorem newDict_any (w : World) {R : Ending → World → Prop} (hR : ∀ d w', DSt w.heap.size d [] [] w' → Grow w w' → R (.returned (.pointer (some ⟨d.db, 0, none⟩))) w') :
    Calls Tryd.prog 14 #[] w R := by
  have HR := Lib.hid (hR _ _ (dst_new w) ((((Grow.refl w).al _).al _).al _))
  clear hR
  have hmm := @run_makeMap Tryd.prog
  go_enter Tryd.func14, Tryd.ntmps14
  go_wp2
  exact HR.out
end Go.Proofs.YtjalimkajcjapaaDoor
