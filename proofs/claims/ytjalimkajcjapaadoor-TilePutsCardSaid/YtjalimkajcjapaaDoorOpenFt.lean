/-
  Zooms and features that are handed by value: from the form's reading to what my walks take, with the reach.
-/
import Derived.Test.YtjalimkajcjapaaDoorChecked
import Derived.Test.YtjalimkajcjapaaDoorOpenP
import Derived.Test.YtjalimkajcjapaaDoorOpenW
import Derived.Test.YtjalimkajcjapaaDoorOvCI
import Derived.Test.YtjalimkajcjapaaDoorAtrA
import Derived.Deep.Strs
namespace Go.Proofs.YtjalimkajcjapaaDoor
open Go.RowKit Go.ChangeShapes Go.WideShapes Go.Deep Go.Joins

section
variable {H : Type} {enc : TypeId × Value → H} {P : Program} {w : World} {base : Nat} {spare : Nat → Bool} {held : Bool}
theorem trod_struct5 {t : TypeId} {f0 f1 f2 f3 f4 : Field} {fuel : Nat} {cs : List Value} {x : DataW H × List MemPlace} (ht : P.underlying t = some (.struct #[f0, f1, f2, f3, f4])) (h : DataW.trod enc P w base spare held fuel t cs = some x) :
    ∃ y0 y1 y2 y3 y4 n, x = (.agg [y0.1, y1.1, y2.1, y3.1, y4.1], y0.2 ++ (y1.2 ++ (y2.2 ++ (y3.2 ++ y4.2)))) ∧ cs.length = P.cellsOf t ∧ DataW.trod enc P w base spare held n f0.type ((cs.drop f0.offset).take (P.cellsOf f0.type)) = some y0 ∧
      DataW.trod enc P w base spare held n f1.type ((cs.drop f1.offset).take (P.cellsOf f1.type)) = some y1 ∧ DataW.trod enc P w base spare held n f2.type ((cs.drop f2.offset).take (P.cellsOf f2.type)) = some y2 ∧
      DataW.trod enc P w base spare held n f3.type ((cs.drop f3.offset).take (P.cellsOf f3.type)) = some y3 ∧ DataW.trod enc P w base spare held n f4.type ((cs.drop f4.offset).take (P.cellsOf f4.type)) = some y4 := by
  obtain ⟨xs, n, _, rfl, hl, hlen, hf⟩ := DataW.trod_struct ht h
  match xs, hlen with
  | [y0, y1, y2, y3, y4], _ => exact ⟨y0, y1, y2, y3, y4, n, by simp, hl, by simpa using hf 0 f0 rfl, by simpa using hf 1 f1 rfl, by simpa using hf 2 f2 rfl, by simpa using hf 3 f3 rfl, by simpa using hf 4 f4 rfl⟩
end
section
variable {H : Type} {enc : TypeId × Value → H} {w : World}
theorem q_list3 : ∀ {cs : List Value}, cs.length = 3 → ∃ a b c, cs = [a, b, c]
  | [a, b, c], _ => ⟨a, b, c, rfl⟩
theorem q_list4 : ∀ {cs : List Value}, cs.length = 4 → ∃ a b c d, cs = [a, b, c, d]
  | [a, b, c, d], _ => ⟨a, b, c, d, rfl⟩
theorem q_list5 : ∀ {cs : List Value}, cs.length = 5 → ∃ a b c d e, cs = [a, b, c, d, e]
  | [a, b, c, d, e], _ => ⟨a, b, c, d, e, rfl⟩
theorem q_int : Tryd.prog.cellsOf 3 = 1 := by kernel_rfl
theorem q_bool : Tryd.prog.cellsOf 4 = 1 := by kernel_rfl
theorem q_str : Tryd.prog.cellsOf 9 = 1 := by kernel_rfl
theorem q_u64 : Tryd.prog.cellsOf 37 = 1 := by kernel_rfl
theorem q_val : Tryd.prog.cellsOf 44 = 3 := by kernel_rfl
theorem q_atr : Tryd.prog.cellsOf 46 = 4 := by kernel_rfl
theorem q_ft : Tryd.prog.cellsOf 41 = 5 := by kernel_rfl
theorem q_rows : Tryd.prog.cellsOf 38 = 1 := by kernel_rfl
theorem q_atrs : Tryd.prog.cellsOf 39 = 1 := by kernel_rfl
set_option maxRecDepth 100000 in
theorem open_val_el' (m : Nat) (cs : List Value) (y : DataW H × List MemPlace) (h : DataW.trod enc Tryd.prog w 0 (fun _ => true) true m 44 cs = some y) :
    ∃ x : Val, cs = [.int .i64 x.k, .string x.t, .int .u64 x.b] ∧ I64 x.k ∧ U64 x.b ∧ x.t.size ≤ maxLen := by
  obtain ⟨y0, y1, y2, n, rfl, hl, h0, h1, h2⟩ := trod_struct3 Tryd.underlying44 h
  obtain ⟨a, ha, _, wa⟩ := DataW.trod_int Tryd.underlying3 h0
  obtain ⟨s, hs, _, ws⟩ := DataW.trod_string Tryd.underlying9 h1
  obtain ⟨c, hc, _, wc⟩ := DataW.trod_int Tryd.underlying37 h2
  rw [q_val] at hl
  dsimp only at ha hs hc
  rw [q_int] at ha
  rw [q_str] at hs
  rw [q_u64] at hc
  obtain ⟨c0, c1, c2, rfl⟩ := q_list3 hl
  simp only [List.drop_zero, List.take_succ_cons, List.take_zero, List.drop_succ_cons, List.cons.injEq, and_true] at ha hs hc
  subst ha hs hc
  exact ⟨⟨a, s, c⟩, rfl, bounds_i64 wa, bounds_u64 wc, ws⟩
set_option maxRecDepth 100000 in
theorem open_atr_el (m : Nat) (cs : List Value) (y : DataW H × List MemPlace) (h : DataW.trod enc Tryd.prog w 0 (fun _ => true) true m 46 cs = some y) : ∃ x : Atr, cs = x.cells ∧ x.ok := by
  obtain ⟨y0, y1, n, rfl, hl, h0, h1⟩ := trod_struct2 Tryd.underlying46 h
  obtain ⟨s, hs, _, ws⟩ := DataW.trod_string Tryd.underlying9 h0
  dsimp only at hs h1
  obtain ⟨x, hx, x1, x2, x3⟩ := open_val_el' _ _ _ h1
  rw [q_atr] at hl
  rw [q_str] at hs
  rw [q_val] at hx
  obtain ⟨c0, c1, c2, c3, rfl⟩ := q_list4 hl
  simp only [List.drop_zero, List.take_succ_cons, List.take_zero, List.drop_succ_cons, List.cons.injEq, and_true] at hs hx
  obtain ⟨e1, e2, e3⟩ := hx
  subst hs e1 e2 e3
  exact ⟨⟨s, x⟩, rfl, ws, x1, x2, x3⟩
theorem open_atrsS {fuel : Nat} {v : Value} {x : DataW H × List MemPlace} (h : DataW.trod enc Tryd.prog w 0 (fun _ => true) true fuel 39 [v] = some x) (hL : Light Tryd.prog 39 x.1) :
    ∃ l : List Atr, Rd w (fun _ => True) 4 v l.length (Atrs l) ∧ l.length * 48 ≤ reachBytes ∧ ∀ a ∈ l, a.ok := by
  obtain ⟨l, h1, h2, h3⟩ := open_listS Atr.cells Atr.ok Tryd.underlying39 q_atr (by decide) (fun m cs y hy _ => open_atr_el m cs y hy) h hL
  rw [show Tryd.prog.bytesOf 46 = 48 by kernel_rfl] at h2
  exact ⟨l, h1, h2, h3⟩
theorem open_ptsS {fuel : Nat} {v : Value} {x : DataW H × List MemPlace} (h : DataW.trod enc Tryd.prog w 0 (fun _ => true) true fuel 78 [v] = some x) (hL : Light Tryd.prog 78 x.1) :
    ∃ l : List Pt, Rd w (fun _ => True) 2 v l.length (Pts l) ∧ l.length * 16 ≤ reachBytes ∧ ∀ a ∈ l, a.ok := by
  obtain ⟨l, h1, h2, h3⟩ := open_listS Pt.cells Pt.ok Tryd.underlying78 cells_pt (by decide) (fun m cs y hy _ => open_pt_el m cs y hy) h hL
  rw [show Tryd.prog.bytesOf 115 = 16 by kernel_rfl] at h2
  exact ⟨l, h1, h2, h3⟩
theorem open_prow_elS (m : Nat) (cs : List Value) (y : DataW H × List MemPlace) (h : DataW.trod enc Tryd.prog w 0 (fun _ => true) true m 78 cs = some y) (hL : Light Tryd.prog 78 y.1) :
    ∃ r : PRow, cs = [r.v] ∧ (r.rd w (fun _ => True) ∧ (∀ s ∈ r.l, s.ok) ∧ r.l.length ≤ 140737488355328) := by
  have hv : ∃ v, cs = [v] := by
    rcases open_slice Tryd.underlying78 h with ⟨h1, _⟩ | ⟨a, len, cap, m, k, D, Pl, h1, _⟩
    · exact ⟨_, h1⟩
    · exact ⟨_, h1⟩
  obtain ⟨v, rfl⟩ := hv
  obtain ⟨l, h1, h2, h3⟩ := open_ptsS h hL
  refine ⟨⟨v, l⟩, rfl, h1, h3, ?_⟩
  unfold reachBytes at h2
  show l.length ≤ _
  omega
theorem open_prowsS' {fuel : Nat} {v : Value} {x : DataW H × List MemPlace} (h : DataW.trod enc Tryd.prog w 0 (fun _ => true) true fuel 38 [v] = some x) (hL : Light Tryd.prog 38 x.1) :
    ∃ l : List PRow, Rd w (fun _ => True) 1 v l.length (l.map PRow.v) ∧ ∀ r ∈ l, r.rd w (fun _ => True) ∧ (∀ s ∈ r.l, s.ok) ∧ r.l.length ≤ 140737488355328 := by
  obtain ⟨l, h1, -, h2⟩ := open_listS (size := 1) (fun r : PRow => [r.v]) (fun r => r.rd w (fun _ => True) ∧ (∀ s ∈ r.l, s.ok) ∧ r.l.length ≤ 140737488355328) Tryd.underlying38 (by kernel_rfl) (by decide) open_prow_elS h hL
  rw [flat_one] at h1
  exact ⟨l, h1, h2⟩
/-- a feature as it is read -/
def FtOk (w : World) (f : Ft) (A : List PRow) (B : List Atr) : Prop :=
  Rd w (fun _ => True) 1 f.pv A.length (A.map PRow.v) ∧ (∀ r ∈ A, r.rd w (fun _ => True) ∧ (∀ s ∈ r.l, s.ok) ∧ r.l.length ≤ 140737488355328) ∧
  Rd w (fun _ => True) 4 f.av B.length (Atrs B) ∧ B.length * 48 ≤ reachBytes ∧ (∀ a ∈ B, a.ok) ∧ f.id < 18446744073709551616 ∧ I64 f.ty
set_option maxRecDepth 100000 in
theorem open_ft_el (m : Nat) (cs : List Value) (y : DataW H × List MemPlace) (h : DataW.trod enc Tryd.prog w 0 (fun _ => true) true m 41 cs = some y) (hL : Light Tryd.prog 41 y.1) :
    ∃ (f : Ft) (A : List PRow) (B : List Atr), cs = f.cells ∧ FtOk w f A B := by
  obtain ⟨y0, y1, y2, y3, y4, n, rfl, hl, h0, h1, h2, h3, h4⟩ := trod_struct5 Tryd.underlying41 h
  have hL3 := light_struct (j := 3) Tryd.underlying41 hL rfl rfl
  have hL4 := light_struct (j := 4) Tryd.underlying41 hL rfl rfl
  obtain ⟨a, ha, _⟩ := DataW.trod_bool Tryd.underlying4 h0
  obtain ⟨b, hb, _, wb⟩ := DataW.trod_int Tryd.underlying37 h1
  obtain ⟨c, hc, _, wc⟩ := DataW.trod_int Tryd.underlying3 h2
  rw [q_ft] at hl
  dsimp only at ha hb hc h3 h4
  rw [q_bool] at ha
  rw [q_u64] at hb
  rw [q_int] at hc
  rw [q_rows] at h3
  rw [q_atrs] at h4
  have b1 := bounds_u64 wb
  have b2 := bounds_i64 wc
  obtain ⟨b, rfl⟩ := Int.eq_ofNat_of_zero_le b1.1
  obtain ⟨c0, c1, c2, c3, c4, rfl⟩ := q_list5 hl
  simp only [List.drop_zero, List.take_succ_cons, List.take_zero, List.drop_succ_cons, List.cons.injEq, and_true] at ha hb hc h3 h4
  subst ha hb hc
  obtain ⟨A, a1, a2⟩ := open_prowsS' h3 hL3
  obtain ⟨B, z1, z2, z3⟩ := open_atrsS h4 hL4
  exact ⟨⟨a, b, c, c3, c4⟩, A, B, rfl, a1, a2, z1, z2, z3, by show b < _; omega, b2⟩
set_option maxRecDepth 100000 in
theorem open_ftv {base : Nat} {v : Value} {d : DataW H} {p : List MemPlace} (hv : Value.okWide Tryd.prog w .any base 41 v) (h : DataW.Trod enc Tryd.prog w 0 (fun _ => true) true 41 v d p) (hL : Light Tryd.prog 41 d) :
    ∃ (f : Ft) (A : List PRow) (B : List Atr), v = .agg f.cells.toArray ∧ FtOk w f A B := by
  obtain ⟨cs, rfl, _⟩ := okWide_struct Tryd.underlying41 hv
  obtain ⟨fuel, hf⟩ := h
  obtain ⟨f, A, B, hq, ok⟩ := open_ft_el fuel _ (d, p) hf hL
  refine ⟨f, A, B, ?_, ok⟩
  have : cs.toList = f.cells := hq
  rw [← this]
end
end Go.Proofs.YtjalimkajcjapaaDoor
