/-
  Layers that are handed in: from the form's reading to what my walks take.
-/
import Derived.Test.YtjalimkajcjapaaDoorChecked
import Derived.Test.YtjalimkajcjapaaDoorOpenFt
import Derived.Test.YtjalimkajcjapaaDoorLyR
import Derived.Test.YtjalimkajcjapaaDoorTMuch
namespace Go.Proofs.YtjalimkajcjapaaDoor
open Go.RowKit Go.ChangeShapes Go.WideShapes Go.Deep Go.Joins

section
variable {H : Type} {enc : TypeId × Value → H} {w : World}
theorem q_ly : Tryd.prog.cellsOf 36 = 3 := by kernel_rfl
theorem q_fts : Tryd.prog.cellsOf 34 = 1 := by kernel_rfl
def RB : Nat := 140737488355328
theorem light_str {t : TypeId} {b : ByteArray} (h : Light Tryd.prog t (.lit (.string b.data.toList) : DataW H)) : b.size ≤ RB := by
  have := h b.data.toList.length (by simp [DataW.weights])
  unfold reachBytes at this
  have e : b.data.toList.length = b.size := by simp
  unfold RB
  omega
set_option maxRecDepth 100000 in
theorem open_val_elS (m : Nat) (cs : List Value) (y : DataW H × List MemPlace) (h : DataW.trod enc Tryd.prog w 0 (fun _ => true) true m 44 cs = some y) (hL : Light Tryd.prog 44 y.1) :
    ∃ x : Val, cs = [.int .i64 x.k, .string x.t, .int .u64 x.b] ∧ I64 x.k ∧ U64 x.b ∧ x.t.size ≤ maxLen ∧ x.t.size ≤ RB := by
  obtain ⟨y0, y1, y2, n, rfl, hl, h0, h1, h2⟩ := trod_struct3 Tryd.underlying44 h
  have hL1 := light_struct (j := 1) Tryd.underlying44 hL rfl rfl
  obtain ⟨a, ha, _, wa⟩ := DataW.trod_int Tryd.underlying3 h0
  obtain ⟨s, hs, es, ws⟩ := DataW.trod_string Tryd.underlying9 h1
  obtain ⟨c, hc, _, wc⟩ := DataW.trod_int Tryd.underlying37 h2
  rw [es] at hL1
  have bs := light_str hL1
  rw [q_val] at hl
  dsimp only at ha hs hc
  rw [q_int] at ha
  rw [q_str] at hs
  rw [q_u64] at hc
  obtain ⟨c0, c1, c2, rfl⟩ := q_list3 hl
  simp only [List.drop_zero, List.take_succ_cons, List.take_zero, List.drop_succ_cons, List.cons.injEq, and_true] at ha hs hc
  subst ha hs hc
  exact ⟨⟨a, s, c⟩, rfl, bounds_i64 wa, bounds_u64 wc, ws, bs⟩
set_option maxRecDepth 100000 in
theorem open_atr_elS (m : Nat) (cs : List Value) (y : DataW H × List MemPlace) (h : DataW.trod enc Tryd.prog w 0 (fun _ => true) true m 46 cs = some y) (hL : Light Tryd.prog 46 y.1) : ∃ x : Atr, cs = x.cells ∧ x.ok ∧ x.key.size ≤ RB ∧ x.val.t.size ≤ RB := by
  obtain ⟨y0, y1, n, rfl, hl, h0, h1⟩ := trod_struct2 Tryd.underlying46 h
  have hL0 := light_struct (j := 0) Tryd.underlying46 hL rfl rfl
  have hL1 := light_struct (j := 1) Tryd.underlying46 hL rfl rfl
  obtain ⟨s, hs, es, ws⟩ := DataW.trod_string Tryd.underlying9 h0
  rw [es] at hL0
  have bs := light_str hL0
  dsimp only at hs h1
  obtain ⟨x, hx, x1, x2, x3, x4⟩ := open_val_elS _ _ _ h1 hL1
  rw [q_atr] at hl
  rw [q_str] at hs
  rw [q_val] at hx
  obtain ⟨c0, c1, c2, c3, rfl⟩ := q_list4 hl
  simp only [List.drop_zero, List.take_succ_cons, List.take_zero, List.drop_succ_cons, List.cons.injEq, and_true] at hs hx
  obtain ⟨e1, e2, e3⟩ := hx
  subst hs e1 e2 e3
  exact ⟨⟨s, x⟩, rfl, ⟨ws, x1, x2, x3⟩, bs, x4⟩
theorem open_atrsB {fuel : Nat} {v : Value} {x : DataW H × List MemPlace} (h : DataW.trod enc Tryd.prog w 0 (fun _ => true) true fuel 39 [v] = some x) (hL : Light Tryd.prog 39 x.1) :
    ∃ l : List Atr, Rd w (fun _ => True) 4 v l.length (Atrs l) ∧ ∀ a ∈ l, a.ok ∧ a.key.size ≤ RB ∧ a.val.t.size ≤ RB := by
  obtain ⟨l, h1, -, h3⟩ := open_listS (size := 4) Atr.cells (fun a => a.ok ∧ a.key.size ≤ RB ∧ a.val.t.size ≤ RB) Tryd.underlying39 q_atr (by decide) (fun m cs y hy hL => open_atr_elS m cs y hy hL) h hL
  exact ⟨l, h1, h3⟩
def FtR.rch (f : FtR) : Prop := ∀ a ∈ f.B, a.key.size ≤ RB ∧ a.val.t.size ≤ RB
set_option maxRecDepth 100000 in
theorem open_ftr_el (m : Nat) (cs : List Value) (y : DataW H × List MemPlace) (h : DataW.trod enc Tryd.prog w 0 (fun _ => true) true m 41 cs = some y) (hL : Light Tryd.prog 41 y.1) :
    ∃ x : FtR, cs = x.cells ∧ x.rd w (fun _ => True) ∧ x.ok ∧ x.rch := by
  obtain ⟨y0, y1, y2, y3, y4, n, rfl, hl, h0, h1, h2, h3, h4⟩ := trod_struct5 Tryd.underlying41 h
  have hL3 := light_struct (j := 3) Tryd.underlying41 hL rfl rfl
  have hL4 := light_struct (j := 4) Tryd.underlying41 hL rfl rfl
  obtain ⟨a, ha, _⟩ := DataW.trod_bool Tryd.underlying4 h0
  obtain ⟨b, hb, _, wb⟩ := DataW.trod_int Tryd.underlying37 h1
  obtain ⟨c, hc, _, wc⟩ := DataW.trod_int Tryd.underlying3 h2
  rw [q_ft] at hl
  dsimp only at ha hb hc h3 h4
  rw [q_bool] at ha
  rw [q_u64] at hb
  rw [q_int] at hc
  rw [q_rows] at h3
  rw [q_atrs] at h4
  have b1 := bounds_u64 wb
  have b2 := bounds_i64 wc
  obtain ⟨b, rfl⟩ := Int.eq_ofNat_of_zero_le b1.1
  obtain ⟨c0, c1, c2, c3, c4, rfl⟩ := q_list5 hl
  simp only [List.drop_zero, List.take_succ_cons, List.take_zero, List.drop_succ_cons, List.cons.injEq, and_true] at ha hb hc h3 h4
  subst ha hb hc
  obtain ⟨A, a1, a2⟩ := open_prowsS' h3 hL3
  obtain ⟨B, z1, z3⟩ := open_atrsB h4 hL4
  exact ⟨⟨⟨a, b, c, c3, c4⟩, A, B⟩, rfl, ⟨a1, fun r hr => (a2 r hr).1, z1⟩, ⟨by show b < _; omega, b2, fun r hr => (a2 r hr).2.2, fun x hx => (z3 x hx).1⟩, fun x hx => (z3 x hx).2⟩
theorem open_ftsS {fuel : Nat} {v : Value} {x : DataW H × List MemPlace} (h : DataW.trod enc Tryd.prog w 0 (fun _ => true) true fuel 34 [v] = some x) (hL : Light Tryd.prog 34 x.1) :
    ∃ l : List FtR, Rd w (fun _ => True) 5 v l.length (Fts l) ∧ ∀ f ∈ l, f.rd w (fun _ => True) ∧ f.ok ∧ f.rch := by
  obtain ⟨l, h1, -, h3⟩ := open_listS (size := 5) FtR.cells (fun f => f.rd w (fun _ => True) ∧ f.ok ∧ f.rch) Tryd.underlying34 q_ft (by decide) (fun m cs y hy hL => open_ftr_el m cs y hy hL) h hL
  exact ⟨l, h1, h3⟩
set_option maxRecDepth 100000 in
theorem open_ly_el (m : Nat) (cs : List Value) (y : DataW H × List MemPlace) (h : DataW.trod enc Tryd.prog w 0 (fun _ => true) true m 36 cs = some y) (hL : Light Tryd.prog 36 y.1) :
    ∃ x : LyR, cs = x.cells ∧ x.rd w (fun _ => True) ∧ x.ok ∧ x.nm.size ≤ RB ∧ ∀ f ∈ x.F, f.rch := by
  obtain ⟨y0, y1, y2, n, rfl, hl, h0, h1, h2⟩ := trod_struct3 Tryd.underlying36 h
  have hL0 := light_struct (j := 0) Tryd.underlying36 hL rfl rfl
  have hL2 := light_struct (j := 2) Tryd.underlying36 hL rfl rfl
  obtain ⟨s, hs, es, ws⟩ := DataW.trod_string Tryd.underlying9 h0
  obtain ⟨a, ha, _, wa⟩ := DataW.trod_int Tryd.underlying3 h1
  rw [es] at hL0
  have bs := light_str hL0
  rw [q_ly] at hl
  dsimp only at hs ha h2
  rw [q_str] at hs
  rw [q_int] at ha
  rw [q_fts] at h2
  obtain ⟨c0, c1, c2, rfl⟩ := q_list3 hl
  simp only [List.drop_zero, List.take_succ_cons, List.take_zero, List.drop_succ_cons, List.cons.injEq, and_true] at hs ha h2
  subst hs ha
  obtain ⟨F, f1, f2⟩ := open_ftsS h2 hL2
  exact ⟨⟨s, a, c2, F⟩, rfl, ⟨f1, fun f hf => (f2 f hf).1⟩, ⟨ws, bounds_i64 wa, fun f hf => (f2 f hf).2.1⟩, bs, fun f hf => (f2 f hf).2.2⟩
theorem open_lys {fuel : Nat} {v : Value} {x : DataW H × List MemPlace} (h : DataW.trod enc Tryd.prog w 0 (fun _ => true) true fuel 22 [v] = some x) (hL : Light Tryd.prog 22 x.1) :
    ∃ l : List LyR, LysRd w (fun _ => True) v l ∧ (∀ x ∈ l, x.ok) ∧ Rch l := by
  obtain ⟨l, h1, -, h3⟩ := open_listS (size := 3) LyR.cells (fun x => x.rd w (fun _ => True) ∧ x.ok ∧ x.nm.size ≤ RB ∧ ∀ f ∈ x.F, f.rch) Tryd.underlying22 q_ly (by decide) (fun m cs y hy hL => open_ly_el m cs y hy hL) h hL
  exact ⟨l, ⟨h1, fun x hx => (h3 x hx).1⟩, fun x hx => (h3 x hx).2.1, fun x hx => (h3 x hx).2.2⟩
end
end Go.Proofs.YtjalimkajcjapaaDoor
