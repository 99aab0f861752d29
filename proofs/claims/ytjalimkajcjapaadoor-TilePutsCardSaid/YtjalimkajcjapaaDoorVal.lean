/-
  Values of attributes: Plain, Same.
-/
import Derived.Test.YtjalimkajcjapaaDoorChecked
import Derived.Test.YtjalimkajcjapaaDoorCore
namespace Go.Proofs.YtjalimkajcjapaaDoor
open Go.RowKit B

structure Val where
  k : Int
  t : ByteArray
  b : Int
instance : DecidableEq Val := fun x y =>
  if h : x.k = y.k ∧ x.t = y.t ∧ x.b = y.b then isTrue (by obtain ⟨a, b, c⟩ := x; obtain ⟨d, e, f⟩ := y; simp only at h; rw [h.1, h.2.1, h.2.2]) else isFalse (by rintro rfl; exact h ⟨rfl, rfl, rfl⟩)
def Val.v (x : Val) : Value := .agg #[.int .i64 x.k, .string x.t, .int .u64 x.b]
def plainV (x : Val) : Val := if x.k = 1 then ⟨1, x.t, 0⟩ else ⟨x.k, ⟨#[]⟩, x.b⟩

theorem res_plain {tmps : Array Value} {W : World} {b : Nat} {x y z : Value} (h2 : tmps.getD 2 undef = .pointer (some ⟨b, 0, none⟩)) (h : W.heap[b]? = some (.cells #[x, y, z] 44 (0, 0))) : (results Tryd.f59 tmps).run Tryd.prog W = .ok (.agg #[x, y, z]) W := by
  have h2' : tmps[2]?.getD undef = .pointer (some ⟨b, 0, none⟩) := by simpa using h2
  have c0 := cell_of_row W b 0 #[x, y, z] _ (0, 0) h
  have c1 := cell_of_row W b 1 #[x, y, z] _ (0, 0) h
  have c2 := cell_of_row W b 2 #[x, y, z] _ (0, 0) h
  simp [results, Tryd.results59, go_sem, h2', c0, c1, c2]
theorem res_rplain {tmps : Array Value} {W : World} {b : Nat} {x y z : Value} (h2 : tmps.getD 2 undef = .pointer (some ⟨b, 0, none⟩)) (h : W.heap[b]? = some (.cells #[x, y, z] 44 (0, 0))) : (results Tryd.f50 tmps).run Tryd.prog W = .ok (.agg #[x, y, z]) W := by
  have h2' : tmps[2]?.getD undef = .pointer (some ⟨b, 0, none⟩) := by simpa using h2
  have c0 := cell_of_row W b 0 #[x, y, z] _ (0, 0) h
  have c1 := cell_of_row W b 1 #[x, y, z] _ (0, 0) h
  have c2 := cell_of_row W b 2 #[x, y, z] _ (0, 0) h
  simp [results, Tryd.results50, go_sem, h2', c0, c1, c2]
set_option maxRecDepth 100000 in
set_option maxHeartbeats 1000000 in
theorem plain_any (x : Val) (w : World) {R : Ending → World → Prop} (hR : ∀ w', Grow w w' → R (.returned (plainV x).v) w') :
    Calls Tryd.prog 59 #[x.v] w R := by
  have HR := Lib.hid hR
  clear hR
  obtain ⟨k, t, b⟩ := x
  unfold Val.v at *
  dsimp only at *
  by_cases h1 : k = 1
  · subst h1
    have HP : Hid (plainV ⟨1, t, b⟩ = ⟨1, t, 0⟩) := by show _ = _; unfold plainV; rw [if_pos rfl]
    have HR2 : Hid (∀ w', Grow w w' → R (.returned (.agg #[.int .i64 1, .string t, .int .u64 0])) w') := fun w' h => by have := HR.out w' h; rw [HP.out] at this; exact this
    go_enter Tryd.func59, Tryd.ntmps59
    go_wp2
    refine bodyPost_ret (res_plain (b := w.heap.size + 1) rfl ?_) rfl (HR2.out _ (((Grow.refl w).al _).al _))
    have := heap_alloc_new (w.alloc (.cells #[.int .i64 1, .string t, .int .u64 b] 44)) (.cells #[.int .i64 1, .string t, .int .u64 0] 44)
    rw [World.size_alloc] at this
    exact this
  · have t1 : (k == 1) = false := by rw [beq_eq_false_iff_ne]; exact h1
    have HP : Hid (plainV ⟨k, t, b⟩ = ⟨k, ⟨#[]⟩, b⟩) := by show _ = _; unfold plainV; rw [if_neg h1]
    have HR2 : Hid (∀ w', Grow w w' → R (.returned (.agg #[.int .i64 k, .string ⟨#[]⟩, .int .u64 b])) w') := fun w' h => by have := HR.out w' h; rw [HP.out] at this; exact this
    clear h1
    go_enter Tryd.func59, Tryd.ntmps59
    go_wp2
    refine bodyPost_ret (res_plain (b := w.heap.size + 1) rfl ?_) rfl (HR2.out _ (((Grow.refl w).al _).al _))
    have := heap_alloc_new (w.alloc (.cells #[.int .i64 k, .string t, .int .u64 b] 44)) (.cells #[.int .i64 k, .string ⟨#[]⟩, .int .u64 b] 44)
    rw [World.size_alloc] at this
    exact this
set_option maxRecDepth 100000 in
set_option maxHeartbeats 1000000 in
theorem rplain_any (x : Val) (w : World) {R : Ending → World → Prop} (hR : ∀ w', Grow w w' → R (.returned (plainV x).v) w') :
    Calls Tryd.prog 50 #[x.v] w R := by
  have HR := Lib.hid hR
  clear hR
  obtain ⟨k, t, b⟩ := x
  unfold Val.v at *
  dsimp only at *
  by_cases h1 : k = 1
  · subst h1
    have HP : Hid (plainV ⟨1, t, b⟩ = ⟨1, t, 0⟩) := by show _ = _; unfold plainV; rw [if_pos rfl]
    have HR2 : Hid (∀ w', Grow w w' → R (.returned (.agg #[.int .i64 1, .string t, .int .u64 0])) w') := fun w' h => by have := HR.out w' h; rw [HP.out] at this; exact this
    go_enter Tryd.func50, Tryd.ntmps50
    go_wp2
    refine bodyPost_ret (res_rplain (b := w.heap.size + 1) rfl ?_) rfl (HR2.out _ (((Grow.refl w).al _).al _))
    have := heap_alloc_new (w.alloc (.cells #[.int .i64 1, .string t, .int .u64 b] 44)) (.cells #[.int .i64 1, .string t, .int .u64 0] 44)
    rw [World.size_alloc] at this
    exact this
  · have t1 : (k == 1) = false := by rw [beq_eq_false_iff_ne]; exact h1
    have HP : Hid (plainV ⟨k, t, b⟩ = ⟨k, ⟨#[]⟩, b⟩) := by show _ = _; unfold plainV; rw [if_neg h1]
    have HR2 : Hid (∀ w', Grow w w' → R (.returned (.agg #[.int .i64 k, .string ⟨#[]⟩, .int .u64 b])) w') := fun w' h => by have := HR.out w' h; rw [HP.out] at this; exact this
    clear h1
    go_enter Tryd.func50, Tryd.ntmps50
    go_wp2
    refine bodyPost_ret (res_rplain (b := w.heap.size + 1) rfl ?_) rfl (HR2.out _ (((Grow.refl w).al _).al _))
    have := heap_alloc_new (w.alloc (.cells #[.int .i64 k, .string t, .int .u64 b] 44)) (.cells #[.int .i64 k, .string ⟨#[]⟩, .int .u64 b] 44)
    rw [World.size_alloc] at this
    exact this

theorem ba_inj {s t : ByteArray} (h : s.toList = t.toList) : s = t := by
  rw [ByteArray.toList_eq, ByteArray.toList_eq] at h
  exact Go.WideShapes.bytes_inj h
theorem val_ext {x y : Val} (h1 : x.k = y.k) (h2 : x.t = y.t) (h3 : x.b = y.b) : x = y := by
  obtain ⟨a, b, c⟩ := x
  obtain ⟨d, e, f⟩ := y
  simp only at h1 h2 h3
  rw [h1, h2, h3]
set_option maxRecDepth 100000 in
set_option maxHeartbeats 1000000 in
theorem rsame_any (x y : Val) (w : World) {R : Ending → World → Prop} (hR : ∀ w', Grow w w' → R (.returned (.bool (decide (plainV x = plainV y)))) w') :
    Calls Tryd.prog 51 #[x.v, y.v] w R := by
  have HR := Lib.hid hR
  clear hR
  have PX := Lib.hid fun W (R : Ending → World → Prop) hR => rplain_any x W (R := R) hR
  have PY := Lib.hid fun W (R : Ending → World → Prop) hR => rplain_any y W (R := R) hR
  obtain ⟨k1, t1, b1⟩ := x
  obtain ⟨k2, t2, b2⟩ := y
  unfold Val.v at *
  dsimp only at *
  have BX := Lib.hid ((BoxH.laid #[.int .i64 k1, .string t1, .int .u64 b1] 44 (Grow.refl w)).tr ((Grow.refl _).al (.cells #[.int .i64 k2, .string t2, .int .u64 b2] 44)))
  have BY : Hid (BoxH w (w.heap.size + 1) #[.int .i64 k2, .string t2, .int .u64 b2] 44 ((w.alloc (.cells #[.int .i64 k1, .string t1, .int .u64 b1] 44)).alloc (.cells #[.int .i64 k2, .string t2, .int .u64 b2] 44))) := by
    have := BoxH.laid (w := w.alloc (.cells #[.int .i64 k1, .string t1, .int .u64 b1] 44)) #[.int .i64 k2, .string t2, .int .u64 b2] 44 ((Grow.refl w).al _)
    rw [World.size_alloc] at this
    exact this
  go_enter Tryd.func51, Tryd.ntmps51
  go_wp2_with fail
  generalize (w.alloc (.cells #[.int .i64 k1, .string t1, .int .u64 b1] 44)).alloc (.cells #[.int .i64 k2, .string t2, .int .u64 b2] 44) = wa at *
  refine wp_region_lexT (fun W => BoxH w w.heap.size #[.int .i64 k1, .string t1, .int .u64 b1] 44 W ∧ BoxH w (w.heap.size + 1) #[.int .i64 k2, .string t2, .int .u64 b2] 44 W) (⟨BX.out.tr (Grow.refl _).dr, BY.out.tr (Grow.refl _).dr⟩) 3 [0, 2, 1] (by kernel_rfl) (by kernel_rfl) (by intro c a d v w h; cases d <;> exact h) ?_
  iterate 2 (apply lext_take; exact rfl; exact rfl; (intro W hW; have x0 := hW.1.cell 0; have x1 := hW.1.cell 1; have x2 := hW.1.cell 2; have y0 := hW.2.cell 0; have y1 := hW.2.cell 1; have y2 := hW.2.cell 2; (try clear hW); go_simp; with_reducible rfl); try simp only [Act.put, List.setIfInBounds_toArray, List.set_cons_zero, List.set_cons_succ])
  apply lext_turn; exact rfl; exact rfl; exact rfl; intro K hK; go_simp; go_at_call 50; refine PX.out _ _ ?_
  intro w1 hg1
  have GX := Lib.hid (BX.out.tr ((Grow.refl _).dr.tr hg1))
  have GY := Lib.hid (BY.out.tr ((Grow.refl _).dr.tr hg1))
  refine hK.out _ _ ⟨GX.out, GY.out⟩ ?_
  clear hK hg1
  try simp only [Act.put, List.setIfInBounds_toArray, List.set_cons_zero, List.set_cons_succ]
  refine lext_nil ?_
  simp only [List.drop_succ_cons, List.drop_zero]
  go_wp2_with fail
  go_at_call 50
  refine PY.out _ _ ?_
  intro w2 hg2
  have G2 := Lib.hid (GX.out.grow.tr hg2)
  clear hg2
  obtain ⟨p, hp⟩ : ∃ p, plainV ⟨k1, t1, b1⟩ = p := ⟨_, rfl⟩
  obtain ⟨q, hq⟩ : ∃ q, plainV ⟨k2, t2, b2⟩ = q := ⟨_, rfl⟩
  rw [hp, hq] at HR
  rw [hp, hq]
  have HT : Hid (p.k = q.k → p.t.toList = q.t.toList → p.b = q.b → ∀ w', Grow w w' → R (.returned (.bool true)) w') := fun h1 h2 h3 w' hg => by
    have := HR.out w' hg
    rw [decide_eq_true (val_ext h1 (ba_inj h2) h3)] at this
    exact this
  have HF : Hid (¬ (p.k = q.k ∧ p.t.toList = q.t.toList ∧ p.b = q.b) → ∀ w', Grow w w' → R (.returned (.bool false)) w') := fun h w' hg => by
    have := HR.out w' hg
    rw [decide_eq_false (fun e => h (by rw [e]; exact ⟨rfl, rfl, rfl⟩))] at this
    exact this
  clear HR hp hq
  obtain ⟨pk, pt, pb⟩ := p
  obtain ⟨qk, qt, qb⟩ := q
  dsimp only at *
  by_cases e1 : pk = qk
  · by_cases e2 : pt.toList = qt.toList
    · by_cases e3 : pb = qb
      · have HT2 := Lib.hid (HT.out e1 e2 e3)
        go_wp2
        exact HT2.out _ G2.out
      · have HF2 := Lib.hid (HF.out (fun h => e3 h.2.2))
        go_wp2
        exact HF2.out _ G2.out
    · have HF2 := Lib.hid (HF.out (fun h => e2 h.2.1))
      go_wp2
      exact HF2.out _ G2.out
  · have HF2 := Lib.hid (HF.out (fun h => e1 h.1))
    go_wp2
    exact HF2.out _ G2.out
end Go.Proofs.YtjalimkajcjapaaDoor
