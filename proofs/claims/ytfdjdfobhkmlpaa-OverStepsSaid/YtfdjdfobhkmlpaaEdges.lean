/-
  wind.edges: what its iterator hands to a loop's body. By the kit's laws for a range over a function.
-/
import Derived.RangeFuncNested
import Derived.RangeFuncBound
import Derived.RangeFuncCalls
import Derived.RangeFuncLeaves
import Derived.Shelf.Abstract
import Derived.Shelf.RegionOpen
import Derived.OwnWalkIn
import Derived.TacticsInMore
import Derived.LoopNIn
import Derived.LoopIn
import Derived.Test.YtfdjdfobhkmlpaaStillIn
import Derived.Test.YtfdjdfobhkmlpaaChecked
import Derived.Test.YtfdjdfobhkmlpaaCore
import Derived.Test.YtfdjdfobhkmlpaaPts0
namespace Go.Proofs.Ytfdjdfobhkmlpaa
open Go.RowKit Go.Shelf
attribute [local go_sem] Oper.semAt_some

theorem abides_grow {β : Type} {B : Nat} {J : β → World → Prop} (h : AbidesFrom B J) {s : β} {W W' : World} (hs : J s W) (hg : Grow W W') : J s W' :=
  h s W W' none hs ⟨hg.os, hg.tape, hg.output, hg.size, fun k hk _ => hg.block k hk⟩ (fun r e => by cases e)

/-- the way around: each point with the next one -/
def edgesL (l : List Pt) : List (Pt × Pt) := (List.range l.length).map fun i => (l.getD i ⟨0, 0⟩, l.getD ((i + 1) % l.length) ⟨0, 0⟩)
theorem edgesL_len (l : List Pt) : (edgesL l).length = l.length := by simp [edgesL]
theorem edgesL_at {l : List Pt} {i : Nat} (hi : i < l.length) : (edgesL l)[i]'(by rw [edgesL_len]; exact hi) = (l[i], l[(i + 1) % l.length]'(Nat.mod_lt _ (by omega))) := by
  have h2 : (i + 1) % l.length < l.length := Nat.mod_lt _ (by omega)
  simp [edgesL, hi, h2]
def encPP (x : Pt × Pt) : Array Value := #[.agg x.1.cells.toArray, .agg x.2.cells.toArray]

/-- what a round keeps: all that lay below n₀, and the block Bn -/
def KpE (n₀ Bn : Nat) (W W' : World) : Prop := Below n₀ W W' ∧ W'.heap[Bn]? = W.heap[Bn]?

set_option maxRecDepth 100000 in
set_option maxHeartbeats 4000000 in
theorem edges1_in (n : Nat) (lY Bn n₀ : Nat) (v : Value) (l : List Pt) (J Jx : List (Pt × Pt) → World → Prop)
    (hY : ∀ pre x W, J pre W → pre.length < l.length → pre ++ [x] <+: edgesL l → YieldAt Fence.wide (n - 1) Try.prog lY (encPP x) W fun e W' =>
      (e = .returned (.bool true) ∧ J (pre ++ [x]) W' ∧ KpE n₀ Bn W W') ∨ (e = .returned (.bool false) ∧ Jx (pre ++ [x]) W'))
    (W : World) (hJ : AbidesFrom W.heap.size J) (hBn : W.heap[Bn]? = some (.cells #[v] 33 (0, 0))) (hL : Rd W (· < n₀) 2 v l.length (Pts l)) (hn0 : n₀ ≤ W.heap.size) (h0 : J [] W) :
    CallsIn Fence.wide n Try.prog 61 #[.func (.yield lY) #[] #[], .pointer (some ⟨Bn, 0, none⟩)] W fun e W' => (∃ v, e = .returned v) ∧
      ((∃ ys, ys = edgesL l ∧ J ys W') ∨ (∃ pre, pre <+: edgesL l ∧ Jx pre W')) := by
  refine callsIn_of_wp Try.func61 rfl trivial ?_ rfl
  have HJ := Lib.hid hJ
  have HY := Lib.hid hY
  have HL := Lib.hid hL
  clear hJ hY
  obtain ⟨_, A, c, rfl, k1, k2, -, -⟩ := hL
  unfold maxLen at k2
  have cB := cell_of_one hBn
  have HB := Lib.hid hBn
  have HBL := Lib.hid (lt_of_block hBn)
  clear hBn
  simp only [Try.ntmps61, List.size_toArray, List.length_cons, List.length_nil, Nat.reduceAdd, Nat.reduceSub, Array.replicate_succ, Array.replicate_zero, List.push_toArray, List.append_toArray, List.nil_append, List.cons_append]
  gi_wp2
  clear cB
  gi_loopw [7] (fun i wr => ∃ k : Nat, k ≤ l.length ∧ i = .int .i64 k ∧ Hid (J ((edgesL l).take k) wr) ∧ Hid (wr.heap[Bn]? = some (.cells #[.slice A l.length c] 33 (0, 0))) ∧ Hid (Rd wr (· < n₀) 2 (.slice A l.length c) l.length (Pts l)) ∧ Hid (W.heap.size ≤ wr.heap.size)) (fun i _ => l.length - (intOf i).toNat)
  case atStart => exact ⟨0, Nat.zero_le _, rfl, h0, HB.out, HL.out, Nat.le_refl _⟩
  case round =>
    obtain ⟨k, hk, rfl, hj, hb, hr, hs⟩ := hrel
    by_cases hlt : k < l.length
    · have hr2 := hr.out
      obtain ⟨_, A', c', hv, _, _, _, r4⟩ := hr2
      injection hv with e1 _ e2
      subst e1 e2
      obtain ⟨b, o, rfl, hbn, hc⟩ := r4 (by omega)
      have hm : (k + 1) % l.length < l.length := Nat.mod_lt _ (by omega)
      have HED : Hid ((edgesL l).take (k + 1) = (edgesL l).take k ++ [(l[k]'hlt, l[(k + 1) % l.length]'hm)]) := by
        show _ = _
        rw [List.take_succ_eq_append_getElem (by rw [edgesL_len]; exact hlt), edgesL_at hlt]
      have LT : b < wr.heap.size := Nat.lt_of_lt_of_le hbn (Nat.le_trans hn0 hs.out)
      have e1 := fun W (h : Grow wr W) => flat_cells Pt.cells_len h LT hc hlt
      have e2 := fun W (h : Grow wr W) => flat_cells Pt.cells_len h LT hc hm
      have w1 : IntKind.i64.wrap ((k : Int) + 1) = (k : Int) + 1 := IntWalk.i64_in _ (by omega)
      have w2 : ((k : Int) + 1).tmod (l.length : Int) = (((k + 1) % l.length : Nat) : Int) := by
        rw [Int.tmod_eq_emod_of_nonneg (by omega)]; exact (Int.natCast_emod (k + 1) l.length).symm
      have w3 : ((k : Int) + 1) % (l.length : Int) = (((k + 1) % l.length : Nat) : Int) := (Int.natCast_emod (k + 1) l.length).symm
      have z1 : ((l.length : Int) == 0) = false := by rw [beq_eq_false_iff_ne]; omega
      have z2 : ¬ (l.length : Int) = 0 := by omega
      have z3 : ¬ l = [] := by rintro rfl; simp at hlt
      clear hc r4
      generalize (k + 1) % l.length = m at *
      generalize l[k]'hlt = p at *
      generalize l[m]'hm = q at *
      obtain ⟨p1, p2⟩ := p
      obtain ⟨q1, q2⟩ := q
      have C1 : Hid (∀ W, Grow wr W → W.cell? ⟨b, o + k * 2, none⟩ = some (.int .i64 p1) ∧ W.cell? ⟨b, o + k * 2 + 1, none⟩ = some (.int .i64 p2)) := fun W h => ⟨e1 W h 0 _ rfl, e1 W h 1 _ rfl⟩
      have C2 : Hid (∀ W, Grow wr W → W.cell? ⟨b, o + m * 2, none⟩ = some (.int .i64 q1) ∧ W.cell? ⟨b, o + m * 2 + 1, none⟩ = some (.int .i64 q2)) := fun W h => ⟨e2 W h 0 _ rfl, e2 W h 1 _ rfl⟩
      clear e1 e2
      have GB : Grow wr (wr.alloc (.cells #[.int .i64 p1, .int .i64 p2] 36)) := (Grow.refl wr).al _
      obtain ⟨fn, tmps, assign, body, hy, hR⟩ := HY.out ((edgesL l).take k) (⟨p1, p2⟩, ⟨q1, q2⟩) (wr.alloc (.cells #[.int .i64 p1, .int .i64 p2] 36)).drew (abides_grow HJ.out hj.out GB.dr) (by rw [List.length_take, edgesL_len]; omega) (by have h := List.take_prefix (k + 1) (edgesL l); rwa [HED.out] at h)
      dsimp only [encPP, Pt.cells] at hy
      have HR : Hid (RoundIn Fence.wide (n - 1) Try.prog lY fn tmps assign body (wr.alloc (.cells #[.int .i64 p1, .int .i64 p2] 36)).drew fun e W' => ∃ t : Bool, e = .returned (.bool t) ∧ Hid ((t = true ∧ J ((edgesL l).take (k + 1)) W' ∧ KpE n₀ Bn (wr.alloc (.cells #[.int .i64 p1, .int .i64 p2] 36)).drew W') ∨ (t = false ∧ Jx ((edgesL l).take (k + 1)) W'))) := by
        refine hR.mono ?_
        rintro e W' (⟨rfl, h1, h2⟩ | ⟨rfl, h1⟩)
        · exact ⟨true, rfl, .inl ⟨rfl, by rw [HED.out]; exact h1, h2⟩⟩
        · exact ⟨false, rfl, .inr ⟨rfl, by rw [HED.out]; exact h1⟩⟩
      have HB2 := Lib.hid ((GB.dr.block Bn (lt_of_block hb.out)).trans hb.out)
      have HL2 := Lib.hid (hr.out.gr2 (by decide) GB.dr)
      have HS2 : Hid (W.heap.size ≤ ((wr.alloc (.cells #[.int .i64 p1, .int .i64 p2] 36)).drew).heap.size) := Nat.le_trans hs.out GB.dr.size
      clear hR
      obtain ⟨y1, y2⟩ := C1.out _ (Grow.refl wr)
      obtain ⟨zz1, zz2⟩ := C2.out _ GB
      have cB : (wr.alloc (.cells #[.int .i64 p1, .int .i64 p2] 36)).cell? ⟨Bn, 0, none⟩ = some (.slice (some ⟨b, o, none⟩) l.length c) := (GB.cell (p := ⟨Bn, 0, none⟩) (lt_of_block hb.out)).trans (cell_of_one hb.out)
      gi_wp2
      refine wpIn_region_still_tail 10 (by kernel_rfl) (by kernel_rfl) ?_
      simp only [List.take_succ_cons, List.take_zero, List.drop_succ_cons, List.drop_zero]
      repeat still_step
      try refine wpStill_nil ?_
      gi_wp2
      refine ⟨(by simp [Fence.wide]), HR.out.mono ?_⟩
      rintro e W3 ⟨t, rfl, hpost⟩
      cases t with
      | true =>
        have hp : J ((edgesL l).take (k + 1)) W3 ∧ KpE n₀ Bn (wr.alloc (.cells #[.int .i64 p1, .int .i64 p2] 36)).drew W3 := by
          rcases hpost.out with ⟨_, h1, h2⟩ | ⟨h, _⟩
          · exact ⟨h1, h2⟩
          · cases h
        have HP := Lib.hid hp
        clear hp hpost
        gi_wp2
        go_roundw
        case rel => exact ⟨k + 1, by omega, by go_num, HP.out.1, HP.out.2.2.trans HB2.out, Rd.grow HL2.out HP.out.2.1, Nat.le_trans HS2.out HP.out.2.1.size⟩
        case measure => simp [intOf]; omega
      | false =>
        have hp : Jx ((edgesL l).take (k + 1)) W3 := by
          rcases hpost.out with ⟨h, _⟩ | ⟨_, h1⟩
          · cases h
          · exact h1
        have HP := Lib.hid hp
        clear hp hpost
        gi_wp2
        refine bodyPost_ret (results_none rfl _ _ _) rfl ?_
        exact ⟨⟨_, rfl⟩, .inr ⟨_, List.take_prefix _ _, HP.out⟩⟩
    · obtain rfl : k = l.length := by omega
      gi_wp2
      go_end0
      exact ⟨⟨_, rfl⟩, .inl ⟨_, rfl, by have := hj.out; rwa [List.take_of_length_le (by rw [edgesL_len]; exact Nat.le_refl _)] at this⟩⟩

/-- two points in range -/
abbrev PP : Type := { x : Pt × Pt // x.1.x ≤ 2097152 ∧ -2097152 ≤ x.1.x ∧ x.1.y ≤ 2097152 ∧ -2097152 ≤ x.1.y ∧ x.2.x ≤ 2097152 ∧ -2097152 ≤ x.2.x ∧ x.2.y ≤ 2097152 ∧ -2097152 ≤ x.2.y }
def encP (x : PP) : Array Value := encPP x.1

theorem KpE.tr {n₀ Bn : Nat} {A B C : World} (h : KpE n₀ Bn A B) (k : KpE n₀ Bn B C) : KpE n₀ Bn A C := ⟨h.1.trans k.1, k.2.trans h.2⟩
theorem KpE.put {n₀ Bn : Nat} {w : World} (hn : n₀ ≤ w.heap.size) (hB : Bn < w.heap.size) (W : World) (l : Nat) (o o' : Obj) (hl : w.heap.size ≤ l) (h : W.heap[l]? = some o) (h1 : o.isCells = false) (h2 : o.isWalk = false) : KpE n₀ Bn W (W.putObj l o') :=
  ⟨belowK_b hn W l o o' hl h h1 h2, World.putObj_heap_other (by omega)⟩

theorem edges_stops (n : Nat) (Bn n₀ : Nat) (v : Value) (l : List Pt) (w : World) (hBn : w.heap[Bn]? = some (.cells #[v] 33 (0, 0))) (hL : Rd w (· < n₀) 2 v l.length (Pts l)) (hn0 : n₀ ≤ w.heap.size)
    (hin : ∀ p ∈ l, p.x ≤ 2097152 ∧ -2097152 ≤ p.x ∧ p.y ≤ 2097152 ∧ -2097152 ≤ p.y) :
    SeqStopsK Fence.wide n Try.prog 61 #[.pointer (some ⟨Bn, 0, none⟩)] encP (KpE n₀ Bn) (fun ys => ys.map (fun x : PP => x.1) = edgesL l) (fun pre => pre.map (fun x : PP => x.1) <+: edgesL l) l.length w := by
  intro lY J Jx W hW hJ hJx hY h0
  have hB2 : W.heap[Bn]? = some (.cells #[v] 33 (0, 0)) := (hW.block Bn (lt_of_block hBn)).trans hBn
  have hmem : ∀ x ∈ edgesL l, x.1.x ≤ 2097152 ∧ -2097152 ≤ x.1.x ∧ x.1.y ≤ 2097152 ∧ -2097152 ≤ x.1.y ∧ x.2.x ≤ 2097152 ∧ -2097152 ≤ x.2.x ∧ x.2.y ≤ 2097152 ∧ -2097152 ≤ x.2.y := by
    intro x hx
    obtain ⟨i, hi, rfl⟩ := List.getElem_of_mem hx
    rw [edgesL_len] at hi
    rw [edgesL_at hi]
    have h1 := hin _ (List.getElem_mem hi)
    have h2 := hin _ (List.getElem_mem (Nat.mod_lt (i + 1) (show 0 < l.length by omega)))
    exact ⟨h1.1, h1.2.1, h1.2.2.1, h1.2.2.2, h2⟩
  refine (edges1_in n lY Bn n₀ v l (fun pre W => ∃ pre' : List PP, pre'.map (fun x : PP => x.1) = pre ∧ J pre' W) (fun pre W => ∃ pre' : List PP, pre'.map (fun x : PP => x.1) = pre ∧ Jx pre' W) ?_ W ?_ hB2 (hL.gr2 (by decide) hW) (Nat.le_trans hn0 hW.size) ⟨[], rfl, h0⟩).mono ?_
  · rintro pre x W1 ⟨pre', rfl, hj⟩ hlen hpre
    have hx : x ∈ edgesL l := hpre.subset (by simp)
    refine (hY pre' ⟨x, hmem x hx⟩ W1 hj (by simpa using hlen)).mono ?_
    rintro e W' (⟨h1, h2, h3⟩ | ⟨h1, h2⟩)
    · exact .inl ⟨h1, ⟨_, by rw [List.map_append]; rfl, h2⟩, h3⟩
    · exact .inr ⟨h1, ⟨_, by rw [List.map_append]; rfl, h2⟩⟩
  · rintro s A B row ⟨pre', h1, h2⟩ hg hr
    exact ⟨pre', h1, hJ _ _ _ _ h2 hg hr⟩
  · rintro e W' ⟨h1, ⟨ys, h2, pre', h3, h4⟩ | ⟨pre, h2, pre', h3, h4⟩⟩
    · exact ⟨h1, .inl ⟨pre', h3.trans h2, h4⟩⟩
    · exact ⟨h1, .inr ⟨pre', (show pre'.map (fun x : PP => x.1) <+: edgesL l by rw [h3]; exact h2), h4⟩⟩

theorem blk_own {β : Type} {B : Nat} {t : TypeId} (base : Nat) (cs : β → Array Value) : OwnFrom base (fun (s : β) W => W.heap[B]? = some (.cells (cs s) t (0, 0))) := by
  intro s W W' row hs hg hr
  refine (hg.block B (lt_of_block hs) ?_).trans hs
  intro e
  obtain ⟨_, o, ho, hc⟩ := hr B e.symm
  rw [hs] at ho
  cases ho
  cases hc

set_option maxRecDepth 100000 in
set_option maxHeartbeats 1000000 in
theorem edges_any (A : Option Addr) (m c : Nat) (w : World) {R : Ending → World → Prop} (hR : R (.returned (.func (.func 61) #[] #[.pointer (some ⟨w.heap.size, 0, none⟩)])) (w.alloc (.cells #[.slice A m c] 33))) :
    Calls Try.prog 44 #[.slice A m c] w R := by
  have HR := Lib.hid hR
  clear hR
  go_enter Try.func44, Try.ntmps44
  go_wp2
  exact HR.out
end Go.Proofs.Ytfdjdfobhkmlpaa
