/-
  Overzooming: features; paths and signs under way; attributes, cloned.
-/
import Derived.Test.YtfdjdfobhkmlpaaChecked
import Derived.Test.YtfdjdfobhkmlpaaOvB
import Derived.Test.YtfdjdfobhkmlpaaRowsOwn
import Derived.Test.YtfdjdfobhkmlpaaSimp
import Derived.Test.YtfdjdfobhkmlpaaWind2
import Derived.Test.YtfdjdfobhkmlpaaLines
import Derived.Test.YtfdjdfobhkmlpaaGroups
import Derived.Laws.OwnMore
namespace Go.Proofs.Ytfdjdfobhkmlpaa
open Go.RowKit B

/-- a feature by its fields; paths and attributes as they lie -/
structure Ft where
  h : Bool
  id : Nat
  ty : Int
  pv : Value
  av : Value
def Ft.cells (f : Ft) : List Value := [.bool f.h, .int .u64 f.id, .int .i64 f.ty, f.pv, f.av]
def zeroFt : Ft := ⟨false, 0, 0, .slice none 0 0, .slice none 0 0⟩
def Is (ns : List Int) : List Value := ns.map fun n => .int .i64 n
def Fre (W : World) (v v' : Value) : Prop := v'.ownBlock = v.ownBlock ∨ ∃ k, v'.ownBlock = some k ∧ W.heap.size ≤ k
def Off2 (pv sv : Value) : Nat → Prop := fun b => some b ≠ pv.ownBlock ∧ some b ≠ sv.ownBlock
structure FSt (w0 : World) (pv sv : Value) (rows : List PRow) (ns : List Int) (W : World) : Prop where
  gr : Grow w0 W
  op : W.ownsRow w0.heap.size 33 1 pv rows.length (rows.map PRow.v)
  os : W.ownsRow w0.heap.size 3 1 sv ns.length (Is ns)
  ne : ∀ k, pv.ownBlock = some k → sv.ownBlock ≠ some k
  each : ∀ r ∈ rows, r.rd W (Off2 pv sv)
theorem FSt.nil (w : World) : FSt w (.slice none 0 0) (.slice none 0 0) [] [] w :=
  ⟨Grow.refl _, World.ownsRow_nil _ _ _ _, World.ownsRow_nil _ _ _ _, fun k hk => by simp [Value.ownBlock] at hk, fun r hr => by simp at hr⟩
theorem FSt.tr {w0 : World} {pv sv : Value} {rows : List PRow} {ns : List Int} {W W' : World} (h : FSt w0 pv sv rows ns W) (hg : Grow W W') : FSt w0 pv sv rows ns W' :=
  ⟨h.gr.tr hg, own_grow h.op hg, own_grow h.os hg, h.ne, fun r hr => (h.each r hr).gr2 (by decide) hg⟩
theorem FSt.off {w0 : World} {pv sv : Value} {rows : List PRow} {ns : List Int} {W : World} (h : FSt w0 pv sv rows ns W) {b : Nat} (hb : W.heap.size ≤ b) : Off2 pv sv b :=
  ⟨fun e => by have := (h.op.lt b e.symm).2; omega, fun e => by have := (h.os.lt b e.symm).2; omega⟩
theorem Fre.off {W : World} {v v' : Value} (h : Fre W v v') {b : Nat} (hb : b < W.heap.size) (h1 : some b ≠ v.ownBlock) : some b ≠ v'.ownBlock := by
  rcases h with h | ⟨k, h, hk⟩
  · rw [h]; exact h1
  · rw [h]
    intro e
    injection e with e
    omega
/-- one path more -/
theorem FSt.path {w0 : World} {pv sv pv' : Value} {rows : List PRow} {ns : List Int} {W W' : World} {r : PRow} (h : FSt w0 pv sv rows ns W)
    (hg : W.grownBy W' pv.ownBlock) (ho : W'.ownsRow w0.heap.size 33 1 pv' (rows ++ [r]).length ((rows ++ [r]).map PRow.v)) (hf : Fre W pv pv') (hr : r.rd W (Off2 pv sv)) : FSt w0 pv' sv (rows ++ [r]) ns W' := by
  have pk : sv.ownBlock = none ∨ sv.ownBlock ≠ pv.ownBlock := by
    cases e : sv.ownBlock with
    | none => exact .inl rfl
    | some k => exact .inr fun e2 => h.ne k e2.symm e
  refine ⟨grow_app h.gr hg (own_ge h.op), ho, h.os.kept hg pk, ?_, ?_⟩
  · intro k hk e
    rcases hf with e1 | ⟨j, e1, hj⟩
    · exact h.ne k (e1.symm.trans hk) e
    · rw [hk] at e1
      injection e1 with e1
      have := (h.os.lt k e).2
      omega
  · intro q hq
    have key : ∀ q : PRow, q.rd W (Off2 pv sv) → q.rd W' (Off2 pv' sv) := fun q hq => ((hq.and_lt (by decide)).by_ (by decide) hg (fun b hb => hb.1.1)).into fun b hb => ⟨hf.off hb.2 hb.1.1, hb.1.2⟩
    rcases List.mem_append.1 hq with hq | hq
    · exact key q (h.each q hq)
    · rw [List.mem_singleton.1 hq]; exact key r hr
/-- one sign more -/
theorem FSt.sign {w0 : World} {pv sv sv' : Value} {rows : List PRow} {ns : List Int} {W W' : World} {n : Int} (h : FSt w0 pv sv rows ns W)
    (hg : W.grownBy W' sv.ownBlock) (ho : W'.ownsRow w0.heap.size 3 1 sv' (ns ++ [n]).length (Is (ns ++ [n]))) (hf : Fre W sv sv') : FSt w0 pv sv' rows (ns ++ [n]) W' := by
  have pk : pv.ownBlock = none ∨ pv.ownBlock ≠ sv.ownBlock := by
    cases e : pv.ownBlock with
    | none => exact .inl rfl
    | some k => exact .inr fun e2 => h.ne k e e2.symm
  refine ⟨grow_app h.gr hg (own_ge h.os), h.op.kept hg pk, ho, ?_, ?_⟩
  · intro k hk e
    rcases hf with e1 | ⟨j, e1, hj⟩
    · exact h.ne k hk (e1.symm.trans e)
    · rw [e] at e1
      injection e1 with e1
      have := (h.op.lt k hk).2
      omega
  · intro q hq
    exact (((h.each q hq).and_lt (by decide)).by_ (by decide) hg (fun b hb => hb.1.2)).into fun b hb => ⟨hb.1.1, hf.off hb.2 hb.1.2⟩
/-- a cell and a slot -/
theorem results_cs {fn : Func} {p s : Tmp} {t1 : TypeId} (h : fn.results = #[.cell p t1, .tmp s]) (tmps : Array Value) (w : World) (g1 : Nat) (c1 : Array Value) (u1 : TypeId) (f1 : Nat × Nat) (d1 : TypeDesc)
    (hp : tmps.getD p undef = .pointer (some ⟨g1, 0, none⟩)) (hg1 : w.heap[g1]? = some (.cells c1 u1 f1)) {v : Value} (hv : tmps.getD s undef = v)
    (hd1 : (match d1 with | .struct _ | .array _ _ => true | _ => false) = true) (hu1 : Try.prog.underlying t1 = some d1) (hi1 : (Try.prog.info? t1).map (·.size) = some c1.size) :
    (results fn tmps).run Try.prog w = .ok (.tuple #[.agg c1, v]) w := by
  have hp' : tmps[p]?.getD undef = .pointer (some ⟨g1, 0, none⟩) := by simpa using hp
  have hv' : tmps[s]?.getD undef = v := by simpa using hv
  simp [results, h, hp', hv', asAddr, run_loadVar_row w g1 u1 t1 c1 f1 d1 hg1 hu1 (by cases d1 <;> first | rfl | simp at hd1) hi1]

theorem el_attr : Elem Try.prog 24 55 (.agg #[.string ⟨#[]⟩, .int .i64 0, .string ⟨#[]⟩, .int .u64 0]) 4 48 := ⟨by kernel_rfl, by kernel_rfl, rfl, by decide, by decide⟩
set_option maxRecDepth 100000 in
set_option maxHeartbeats 1000000 in
theorem cloneAttr_any (n : Nat) (xs : List Value) (v : Value) (S : Nat → Prop) (w : World) (hb : Rd w S 4 v n xs) (hl : n ≤ 1000000) (h1 : ∀ u ∈ xs, u.oneCell' = true) {R : Ending → World → Prop}
    (hR : ∀ r w', w'.ownsRow w.heap.size 55 4 r n xs → Grow w w' → R (.returned r) w') :
    Calls Try.prog 21 #[v] w R := by
  have HB := Lib.hid hb
  have hR := Lib.hid hR
  obtain ⟨hx, A, c, rfl, k1, h2, h3, h4⟩ := hb
  rcases A with _ | a
  · have hne := fun w => Lib.run_eql_slice_nil (P := Try.prog) w 24 55 none 0 0 0 0 el_attr.ht
    obtain rfl : c = 0 := h3 rfl
    obtain rfl : n = 0 := by omega
    obtain rfl : xs = [] := List.eq_nil_of_length_eq_zero (by omega)
    clear h4 h2 h3
    go_enter Try.func21, Try.ntmps21
    go_wp2
    exact hR.out _ _ (World.ownsRow_nil _ _ _ _) (Grow.refl _)
  · have hne := fun w => Lib.run_eql_slice_nil (P := Try.prog) w 24 55 (some a) n c 0 0 el_attr.ht
    clear h3 h4 h2
    have hrow := Lib.hid (World.ownsRow_lit (base := w.heap.size) (e := 55) (size := 4) w #[] 0 (Nat.le_refl _) (by decide) rfl)
    go_enter Try.func21, Try.ntmps21
    go_wp2_with (at_builtin; refine wpList_app rfl _ _ rfl el_attr hrow.out rfl (HB.out.al (by decide) _) rfl h1 (by omega) (by simp) ?_; intro v1 w1 hown1 hgr1 hb1)
    exact hR.out _ _ (own_eq hown1 (by simp) (by simp)) (grow_app ((Grow.refl w).al _) hgr1 (own_ge hrow.out))
end Go.Proofs.Ytfdjdfobhkmlpaa
