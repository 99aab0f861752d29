/-
  The reader of path.Decode: next, coord, closed, points, path.  Paths as numbers, in plain Lean: what Decode and Encode compute, and that they are inverse. The reader of path.Decode: closed, points. The reader of path.Decode: path. A deferred closure that begins by recover: its first operation, then the rest. No program is named here. path.Decode: what is deferred. XLexT's head-and-tail walk of a region that draws its order, in a function that defers: the results are read from variables whose addresses lie in slots that the region does not write. No program is named here. path.Decode. path.Decode: lines and polygons.
-/
import Derived.Test.YtjalimkajcjapaaDoorChecked
import Derived.Test.YtjalimkajcjapaaDoorCore
import Derived.Test.YtjalimkajcjapaaDoorRowsA
import Derived.Test.YtjalimkajcjapaaDoorWireA
import Derived.Test.YtjalimkajcjapaaDoorPRightA
import Derived.Recover
import Derived.Tactics
import Derived.Defers
namespace Go.Proofs.YtjalimkajcjapaaDoor
open Go.RowKit B

theorem inm_bd {n : Int} (h : inm n = true) : -1048576 ≤ n ∧ n ≤ 1048576 := by simpa [inm] using h
theorem zag_bd {x : Int} (h : 0 ≤ x ∧ x ≤ 4294967295) : -2147483648 ≤ zag x ∧ zag x ≤ 2147483647 := by unfold zag; split <;> omega
def stopE (e : Int) : List PanicEntry := [{ v := .iface 139 (.agg #[.int .i64 e]), recovered := false }]
def RdrB (w0 : World) (rb : Nat) (lv : Value) (i : Nat) (a : Pt) (W : World) : Prop := BoxH w0 rb #[lv, .int .i64 i, .int .i64 a.x, .int .i64 a.y] 143 W

theorem by_grow {w w' : World} {row : Option Nat} (h : Grow w w') : w.grownBy w' row := ⟨h.os, h.tape, h.output, h.size, fun k hk _ => h.block k hk⟩
theorem by_set {w w' : World} (h : Grow w w') (b j : Nat) (v : Value) : w.grownBy (w'.setCell ⟨b, j, none⟩ v) (some b) :=
  ⟨h.os, h.tape, h.output, by rw [size_setCell]; exact h.size, fun k hk hne => by
    have e : b ≠ k := fun e => hne (by rw [e])
    have := h.block k hk
    simpa [World.setCell, Array.getElem?_modify, e] using this⟩
theorem by_tr {w w1 w2 : World} {row : Option Nat} (h1 : w.grownBy w1 row) (h2 : w1.grownBy w2 row) : w.grownBy w2 row :=
  ⟨h2.os.trans h1.os, h2.tape.trans h1.tape, h2.output.trans h1.output, Nat.le_trans h1.size h2.size, fun k hk hne => (h2.block k (Nat.lt_of_lt_of_le hk h1.size) hne).trans (h1.block k hk hne)⟩
/-- a row above w grew -/
theorem by_app {w w1 w2 : World} {row r : Option Nat} (h1 : w.grownBy w1 row) (h2 : w1.grownBy w2 r) (hr : ∀ k, r = some k → w.heap.size ≤ k) : w.grownBy w2 row :=
  ⟨h2.os.trans h1.os, h2.tape.trans h1.tape, h2.output.trans h1.output, Nat.le_trans h1.size h2.size, fun k hk hne => (h2.block k (Nat.lt_of_lt_of_le hk h1.size) (fun e => by have := hr k e.symm; omega)).trans (h1.block k hk hne)⟩

set_option maxRecDepth 100000 in
set_option maxHeartbeats 2000000 in
theorem next_any (l : List Int) (lv : Value) (rb i : Nat) (a : Pt) (w0 w : World) (hB : RdrB w0 rb lv i a w) (hl : Rd w0 (· < w0.heap.size) 1 lv l.length (U32 l)) {R : Ending → World → Prop}
    (hS : l.length ≤ i → ∀ w', w.grownBy w' (some rb) → R (.panicked (stopE 2)) w')
    (hR : ∀ (h : i < l.length) w', RdrB w0 rb lv (i + 1) a w' → w.grownBy w' (some rb) → R (.returned (.int .u32 l[i])) w') :
    Calls Tryd.prog 75 #[.pointer (some ⟨rb, 0, none⟩)] w R := by
  have HR := Lib.hid hR
  have HS := Lib.hid hS
  clear hR hS
  have HB := Lib.hid hB
  obtain ⟨_, A, c, rfl, h1, h2, h3, h4⟩ := hl
  unfold maxLen at h2
  unfold RdrB at hB
  have c0 := hB.cell 0
  have c1 := hB.cell 1
  have f1 := hB.free 1
  clear hB
  by_cases hlt : i < l.length
  · go_enter Tryd.func75, Tryd.ntmps75
    go_wp2
    go_quiet (fail)
    have hB1 := (HB.out : BoxH w0 rb _ _ w).tr ((Grow.refl w).dn nq)
    have hB2 := hB1.set 1 (.int .i64 ((i : Int) + 1))
    have HB2 := Lib.hid hB2
    have g1 := hB1.cell 1
    have gf1 := hB1.free 1
    have d0 := hB2.cell 0
    have d1 := hB2.cell 1
    obtain ⟨b, o, rfl, hS, hc⟩ := h4 (by omega)
    have cc : ((w.drewN nq).setCell ⟨rb, 1, none⟩ (.int .i64 ((i : Int) + 1))).cell? ⟨b, o + i, none⟩ = some (.int .u32 (l[i]'hlt)) :=
      (hB2.grow.cell (p := ⟨b, o + i, none⟩) hS).trans (hc i _ (U32_at l i hlt))
    have GB : Hid (w.grownBy ((w.drewN nq).setCell ⟨rb, 1, none⟩ (.int .i64 ((i : Int) + 1))) (some rb)) := by_set ((Grow.refl w).dn nq) rb 1 _
    have e1 : (i : Int) + 1 - 1 = i := by omega
    clear hB1 hB2 hc h4 c0 c1 f1
    go_wp2
    go_quiet (fail)
    go_wp2
    exact HR.out hlt _ ((HB2.out).tr ((Grow.refl _).dn nq)) (by_tr GB.out (by_grow ((Grow.refl _).dn nq)))
  · have t1 : decide (l.length ≤ i) = true := decide_eq_true (by omega)
    go_enter Tryd.func75, Tryd.ntmps75
    go_wp2
    go_quiet (fail)
    go_wp2
    exact ⟨rfl, HS.out (by omega) _ (by_grow ((Grow.refl w).dn nq))⟩

set_option maxRecDepth 100000 in
set_option maxHeartbeats 2000000 in
theorem coord_any (l : List Int) (lv : Value) (rb i : Nat) (a : Pt) (n : Int) (w0 w : World) (hB : RdrB w0 rb lv i a w) (hl : Rd w0 (· < w0.heap.size) 1 lv l.length (U32 l)) (hu : ∀ x ∈ l, 0 ≤ x ∧ x ≤ 4294967295) (hn : inm n = true) {R : Ending → World → Prop}
    (hS : l.length ≤ i → ∀ w', w.grownBy w' (some rb) → R (.panicked (stopE 2)) w')
    (hE : ∀ (h : i < l.length), inm (n + zag l[i]) = false → ∀ w', w.grownBy w' (some rb) → R (.panicked (stopE 8)) w')
    (hR : ∀ (h : i < l.length), inm (n + zag l[i]) = true → ∀ w', RdrB w0 rb lv (i + 1) a w' → w.grownBy w' (some rb) → R (.returned (.int .i64 (n + zag l[i]))) w') :
    Calls Tryd.prog 76 #[.pointer (some ⟨rb, 0, none⟩), .int .i64 n] w R := by
  have HR := Lib.hid hR
  have HS := Lib.hid hS
  have HE := Lib.hid hE
  have HU := Lib.hid hu
  have HN := Lib.hid hn
  have NX := Lib.hid fun (R : Ending → World → Prop) hS hR => next_any l lv rb i a w0 w hB hl (R := R) hS hR
  clear hR hS hE hu hB hl hn
  go_enter Tryd.func76, Tryd.ntmps76
  go_wp2_with fail
  go_at_call 75
  refine NX.out _ ?_ ?_
  · intro h w' hg
    exact ⟨rfl, HS.out h w' hg⟩
  · intro h w1 hB1 hg1
    have G1 := Lib.hid hg1
    have B1 := Lib.hid hB1
    have hx := HU.out l[i] (List.getElem_mem h)
    have HE1 := Lib.hid (HE.out h)
    have HR1 := Lib.hid (HR.out h)
    clear hg1 hB1 NX HR HE HS HU
    generalize l[i] = x at *
    have hn := inm_bd HN.out
    have zb := zag_bd hx
    have ZG := Lib.hid fun W (R : Ending → World → Prop) hR => zag_any x W (by unfold U64; omega) (R := R) hR
    have PI := Lib.hid fun W (R : Ending → World → Prop) hR => pin_any (n + zag x) W (R := R) hR
    have ew : wrap64 (n + zag x) = n + zag x := IntWalk.wrap64_in _ (by omega)
    have eu : IntKind.u64.wrap x = x := IntWalk.u64_in _ (by omega)
    clear zb hn hx
    go_wp2_with fail
    go_at_call 71
    refine ZG.out _ _ ?_
    go_wp2_with fail
    go_at_call 64
    first | (refine PI.out _ _ ?_) | (rw [ew]; refine PI.out _ _ ?_)
    cases hi : inm (n + zag x) with
    | true =>
      have HR2 := Lib.hid (HR1.out hi)
      clear hi
      go_wp2
      exact HR2.out _ B1.out G1.out
    | false =>
      have HE2 := Lib.hid (HE1.out hi)
      clear hi
      go_wp2
      exact ⟨rfl, HE2.out _ G1.out⟩
end Go.Proofs.YtjalimkajcjapaaDoor

namespace Go.Proofs.YtjalimkajcjapaaDoor
open Go.RowKit B

def lastPt (a : Pt) (l : List Pt) : Pt := l.getLast?.getD a
def putPts : List Pt → Pt → List Int
  | [], _ => []
  | p :: ps, a => zig (p.x - a.x) :: zig (p.y - a.y) :: putPts ps p
theorem lastPt_snoc (a : Pt) (l : List Pt) (x : Pt) : lastPt a (l ++ [x]) = x := by simp [lastPt]
theorem lastPt_cons (a p : Pt) (l : List Pt) : lastPt a (p :: l) = lastPt p l := by
  cases l with
  | nil => simp [lastPt]
  | cons q l => rw [lastPt, List.getLast?_cons_cons, lastPt]; rw [List.getLast?_cons]; rfl
theorem putPts_snoc (x : Pt) : ∀ (l : List Pt) (a : Pt), putPts (l ++ [x]) a = putPts l a ++ [zig (x.x - (lastPt a l).x), zig (x.y - (lastPt a l).y)]
  | [], a => by simp [putPts, lastPt]
  | p :: l, a => by simp [putPts, putPts_snoc x l p, lastPt_cons]
theorem putPts_len : ∀ (l : List Pt) (a : Pt), (putPts l a).length = 2 * l.length
  | [], _ => rfl
  | p :: l, a => by simp [putPts, putPts_len l p]; omega

theorem or_head (k n : Nat) (hk : k < 8) (hn : n ≤ 1000000) : bits .or .i64 (k : Int) ((n : Int) * 8) = ((n * 8 + k : Nat) : Int) := by
  show IntKind.i64.wrap ((BitVec.ofInt 64 (k : Int) ||| BitVec.ofInt 64 ((n : Int) * 8)).toNat : Int) = _
  have e : ((n : Int) * 8) = ((n * 8 : Nat) : Int) := by omega
  rw [e, BitVec.toNat_or, BitVec.ofInt_natCast, BitVec.ofInt_natCast, BitVec.toNat_ofNat, BitVec.toNat_ofNat, Nat.mod_eq_of_lt (by omega), Nat.mod_eq_of_lt (by omega), IntKind.wrap_i64]
  have h := Nat.two_pow_add_eq_or_of_lt (i := 3) (b := k) hk n
  rw [Nat.mul_comm, Nat.or_comm] at h
  rw [← h]
  omega

def Near (p : Pt) : Prop := (-1048576 ≤ p.x ∧ p.x ≤ 1048576) ∧ -1048576 ≤ p.y ∧ p.y ≤ 1048576
theorem zig_near {a b : Int} (h1 : -1048576 ≤ a ∧ a ≤ 1048576) (h2 : -1048576 ≤ b ∧ b ≤ 1048576) : 0 ≤ zig (a - b) ∧ zig (a - b) < 4294967296 := by
  unfold zig
  split <;> omega
theorem lastPt_near {a : Pt} {l : List Pt} (ha : Near a) (hl : ∀ p ∈ l, Near p) : Near (lastPt a l) := by
  unfold lastPt
  cases h : l.getLast? with
  | none => exact ha
  | some x => exact hl x (List.mem_of_getLast? h)

set_option maxRecDepth 100000 in
set_option maxHeartbeats 4000000 in
theorem wput_any (kind : Nat) (l : List Pt) (v : Value) (wb : Nat) (lv : Value) (us : List Int) (at_ : Pt) (base : Nat) (w0 w : World)
    (hB : BoxH w0 wb #[lv, .int .i64 at_.x, .int .i64 at_.y] 125 w) (hO : w.ownsRow base 72 1 lv us.length (U32 us)) (hne : lv.ownBlock ≠ some wb) (hb : w0.heap.size ≤ base ∧ base ≤ w.heap.size)
    (hl : Rd w0 (· < w0.heap.size) 2 v l.length (Pts l)) (hk : kind < 8) (hlen : l.length ≤ 1000) (hus : us.length ≤ 100000) (hn : ∀ p ∈ l, Near p) (hna : Near at_) {R : Ending → World → Prop}
    (hR : ∀ lv' w', BoxH w0 wb #[lv', .int .i64 (lastPt at_ l).x, .int .i64 (lastPt at_ l).y] 125 w' → w'.ownsRow base 72 1 lv' (us ++ ((l.length * 8 + kind : Nat) : Int) :: putPts l at_).length (U32 (us ++ ((l.length * 8 + kind : Nat) : Int) :: putPts l at_)) → lv'.ownBlock ≠ some wb → Grow w0 w' → R (.returned (.tuple #[])) w') :
    Calls Tryd.prog 60 #[.pointer (some ⟨wb, 0, none⟩), .int .i64 kind, v] w R := by
  have HR := Lib.hid hR
  have HN := Lib.hid hn
  have HNA := Lib.hid hna
  have HO := Lib.hid hO
  have HB := Lib.hid hB
  have HL := Lib.hid hl
  have HNE := Lib.hid hne
  clear hR hn hna
  obtain ⟨_, A, c, rfl, h1, h2, h3, h4⟩ := hl
  unfold maxLen at h2
  have c0 := hB.cell 0
  have f0 := hB.free 0
  clear hO hB h3 hne
  have hbits := or_head kind l.length hk (by omega)
  go_enter Tryd.func60, Tryd.ntmps60
  go_wp2_with (at_builtin; refine wpList_new rfl _ _ rfl el_u32 HO.out rfl 1 _ rfl (by decide) rfl (by simp [Value.oneCell']) (by omega) HB.out.grow hb ?_; intro v1 w1 hown1 hg1 hgr1 hb1; obtain ⟨X1, cc1, rfl⟩ := own_slice hown1; have B1 := Lib.hid (HB.out.by_ hgr1 (fun k hk => by have := own_ge HO.out k hk; omega) (fun e => HNE.out e.symm)); have d0 := B1.out.cell 0; have e0 := B1.out.free 0; have NE1 : Hid ((Value.slice X1 (us.length + 1) cc1).ownBlock ≠ some wb) := (ins_ne HNE.out HB.out.lt hb1); have O1 := Lib.hid hown1; have HB1 := Lib.hid hgr1.size; clear hg1 hb1 hown1 hgr1)
  have B2 := Lib.hid (B1.out.set 0 (.slice X1 (us.length + 1) cc1))
  have O2 := Lib.hid (own_set (j := 0) (u := .slice X1 (us.length + 1) cc1) O1.out NE1.out)
  have S2 : Hid (base ≤ (w1.setCell ⟨wb, 0, none⟩ (.slice X1 (us.length + 1) cc1)).heap.size) := by rw [size_setCell]; exact Nat.le_trans hb.2 HB1.out
  clear hbits c0 f0 d0 e0 HB1
  go_loopw [25] (fun i wr => ∃ (k m : Nat) (xs : List Int) (u : Value), k ≤ l.length ∧ i = .int .i64 k ∧ Hid (m = us.length + 1 + 2 * k) ∧ Hid (xs = us ++ ((l.length * 8 + kind : Nat) : Int) :: putPts (l.take k) at_) ∧ Hid (BoxH w0 wb #[u, .int .i64 (lastPt at_ (l.take k)).x, .int .i64 (lastPt at_ (l.take k)).y] 125 wr) ∧ Hid (wr.ownsRow base 72 1 u m (U32 xs)) ∧ Hid (u.ownBlock ≠ some wb) ∧ Hid (base ≤ wr.heap.size)) (fun i _ => l.length - (intOf i).toNat)
  case atStart => exact ⟨0, us.length + 1, us ++ [((l.length * 8 + kind : Nat) : Int)], _, Nat.zero_le _, rfl, rfl, rfl, B2.out, own_eq O2.out rfl (by rw [U32_app]; simp [U32]), NE1.out, S2.out⟩
  case round =>
    clear O1 O2 S2 B1 B2 NE1 HO HB HNE
    obtain ⟨k, m, xs, u, hk2, rfl, hm, hxs, hB, hO, hne, hbs⟩ := hrel
    by_cases hlt : k < l.length
    · obtain ⟨b, o, rfl, hS, hc⟩ := h4 (by omega)
      have e1 := flat_cells Pt.cells_len hB.out.grow hS hc hlt
      have HP : Hid (putPts (l.take (k + 1)) at_ = putPts (l.take k) at_ ++ [zig ((l[k]'hlt).x - (lastPt at_ (l.take k)).x), zig ((l[k]'hlt).y - (lastPt at_ (l.take k)).y)]) := by
        show _ = _
        rw [List.take_succ_eq_append_getElem hlt]; exact putPts_snoc _ _ _
      have HLP : Hid (lastPt at_ (l.take (k + 1)) = l[k]'hlt) := by
        show _ = _
        rw [List.take_succ_eq_append_getElem hlt]; exact lastPt_snoc _ _ _
      have hp := HN.out (l[k]'hlt) (List.getElem_mem hlt)
      have hq := lastPt_near HNA.out (fun p hp => HN.out p (List.mem_of_mem_take hp)) (l := l.take k)
      clear hc h4
      generalize l[k]'hlt = p at *
      generalize lastPt at_ (l.take k) = q at *
      obtain ⟨p1, p2⟩ := p
      obtain ⟨q1, q2⟩ := q
      obtain ⟨hp1, hp2⟩ := hp
      obtain ⟨hq1, hq2⟩ := hq
      dsimp only at *
      have c1 := e1 0 _ rfl
      have c2 := e1 1 _ rfl
      simp only [Nat.add_zero] at c1
      clear e1
      have z1 := zig_near hp1 hq1
      have z2 := zig_near hp2 hq2
      have HZ1 := Lib.hid fun W (R : Ending → World → Prop) hR => zig_any (p1 - q1) W (by unfold I64; omega) (R := R) hR
      have HZ2 := Lib.hid fun W (R : Ending → World → Prop) hR => zig_any (p2 - q2) W (by unfold I64; omega) (R := R) hR
      generalize hzz1 : zig (p1 - q1) = Z1 at *
      generalize hzz2 : zig (p2 - q2) = Z2 at *
      clear hzz1 hzz2
      have W1 : IntKind.i64.wrap (p1 - q1) = p1 - q1 := IntWalk.i64_in _ (by omega)
      have W2 : IntKind.i64.wrap (p2 - q2) = p2 - q2 := IntWalk.i64_in _ (by omega)
      have W3 : IntKind.u32.wrap Z1 = Z1 := by rw [IntKind.wrap_u32]; omega
      have W4 : IntKind.u32.wrap Z2 = Z2 := by rw [IntKind.wrap_u32]; omega
      have W5 : Z1 % 4294967296 = Z1 := by omega
      have W6 : Z2 % 4294967296 = Z2 := by omega
      have hwb := Lib.hid hB.out.lt
      have BP := Lib.hid (BoxH.laid #[.int .i64 p1, .int .i64 p2] 115 hB.out.grow)
      have BW := Lib.hid (hB.out.tr ((Grow.refl wr).al (.cells #[.int .i64 p1, .int .i64 p2] 115)))
      have OW := Lib.hid (own_grow hO.out ((Grow.refl wr).al (.cells #[.int .i64 p1, .int .i64 p2] 115)))
      have BSZ : Hid (base ≤ (wr.alloc (.cells #[.int .i64 p1, .int .i64 p2] 115)).heap.size) := by rw [World.size_alloc]; exact Nat.le_succ_of_le hbs.out
      have ULT : Hid (∀ kk, u.ownBlock = some kk → kk < wr.heap.size) := fun kk hk => (hO.out.lt kk hk).2
      go_wp2_with fail
      clear c1 c2
      generalize wr.alloc (.cells #[.int .i64 p1, .int .i64 p2] 115) = wa at *
      refine wp_region_lexT (fun W => BoxH w0 wb #[u, .int .i64 q1, .int .i64 q2] 125 W ∧ BoxH w0 wr.heap.size #[.int .i64 p1, .int .i64 p2] 115 W) (⟨BW.out.tr (Grow.refl _).dr, BP.out.tr (Grow.refl _).dr⟩) 27 [0, 1, 2, 3, 4, 5, 6, 7, 8, 9, 10, 11, 12, 15, 16, 17, 18, 19, 20, 21, 22, 13, 14, 23, 24, 25, 26] (by kernel_rfl) (by kernel_rfl) (by intro c a d v w h; cases d <;> exact h) ?_
      iterate 21 (apply lext_take; exact rfl; exact rfl; (intro W hW; obtain ⟨b1, b2⟩ := hW; have y0 := b1.cell 0; have y1 := b1.cell 1; have y2 := b1.cell 2; have z0 := b2.cell 0; have z1 := b2.cell 1; clear b1 b2; (try clear hW); go_simp; with_reducible rfl); try simp only [Act.put, List.setIfInBounds_toArray, List.set_cons_zero, List.set_cons_succ])
      have GG := Lib.hid (show BoxH w0 wb #[u, .int .i64 q1, .int .i64 q2] 125 wa.drew ∧ BoxH w0 wr.heap.size #[.int .i64 p1, .int .i64 p2] 115 wa.drew from ⟨BW.out.tr (Grow.refl _).dr, BP.out.tr (Grow.refl _).dr⟩)
      apply lext_turn; exact rfl; exact rfl; exact rfl; intro K hK; go_simp; go_at_call 38; refine HZ1.out _ _ ?_; refine hK.out _ _ GG.out ?_; clear hK
      try simp only [Act.put, List.setIfInBounds_toArray, List.set_cons_zero, List.set_cons_succ]
      iterate 1 (apply lext_take; exact rfl; exact rfl; (intro W hW; (try clear hW); go_simp; with_reducible rfl); try simp only [Act.put, List.setIfInBounds_toArray, List.set_cons_zero, List.set_cons_succ])
      apply lext_turn; exact rfl; exact rfl; exact rfl; intro K hK; go_simp; go_at_call 38; refine HZ2.out _ _ ?_; refine hK.out _ _ GG.out ?_; clear hK
      try simp only [Act.put, List.setIfInBounds_toArray, List.set_cons_zero, List.set_cons_succ]
      iterate 1 (apply lext_take; exact rfl; exact rfl; (intro W hW; (try clear hW); go_simp; with_reducible rfl); try simp only [Act.put, List.setIfInBounds_toArray, List.set_cons_zero, List.set_cons_succ])
      apply lext_turn; exact rfl; exact rfl; exact rfl; intro K hK; go_simp; refine hK.out _ _ (⟨GG.out.1.tr ((Grow.refl _).al _), GG.out.2.tr ((Grow.refl _).al _)⟩) ?_; clear hK; try simp only [Act.put, List.setIfInBounds_toArray, List.set_cons_zero, List.set_cons_succ]
      apply lext_turn; exact rfl; exact rfl; exact rfl; intro K hK; refine oper_new3 _ _ rfl el_u32 (own_grow OW.out (Grow.refl _).dr) rfl 2 _ rfl _ rfl (by decide) rfl (by simp [Value.oneCell']) (by have := hm.out; omega) BSZ.out ?_; intro v' w' k1 k2 k3
      have GB : BoxH w0 wb #[u, .int .i64 q1, .int .i64 q2] 125 w' := GG.out.1.by_ k2 (fun k hk => by have := own_ge OW.out k hk; omega) (fun e => hne.out e.symm)
      have GP : BoxH w0 wr.heap.size #[.int .i64 p1, .int .i64 p2] 115 w' := GG.out.2.by_ k2 (fun k hk => by have := own_ge OW.out k hk; omega) (fun e => by have := ULT.out _ e.symm; omega)
      have NE2 : Hid (v'.ownBlock ≠ some wb) := ins_ne hne.out BW.out.lt k3
      have HSZ := Lib.hid k2.size
      refine hK.out _ _ ⟨GB, GP⟩ ?_
      clear hK k2 k3 GG
      have O3 := Lib.hid k1
      obtain ⟨X3, cc3, hv3⟩ := own_slice k1
      subst hv3
      clear k1
      try simp only [Act.put, List.setIfInBounds_toArray, List.set_cons_zero, List.set_cons_succ]
      refine lext_nil ?_
      simp only [List.drop_succ_cons, List.drop_zero]
      have GB2 := Lib.hid (GB.set 0 (.slice X3 (m + 2) cc3))
      have GP2 := Lib.hid (GP.other (j := 0) (v := .slice X3 (m + 2) cc3) (by have := hwb.out; omega) GB.2.1)
      have y0 := GB.cell 0
      have f0 := GB.free 0
      have y1 := GB2.out.cell 1
      have y2 := GB2.out.cell 2
      have f1 := GB2.out.free 1
      have f2 := GB2.out.free 2
      have z1 := GP2.out.cell 0
      have z2 := GP2.out.cell 1
      clear GB GP
      go_wp2
      go_roundw
      case rel =>
        refine ⟨k + 1, m + 2, xs ++ [Z1, Z2], .slice X3 (m + 2) cc3, by omega, by go_num, (by have := hm.out; omega : m + 2 = us.length + 1 + 2 * (k + 1)), ?_, ?_, ?_, NE2.out, ?_⟩
        · show _ = _
          rw [hxs.out, HP.out]; simp
        · rw [HLP.out]
          exact (GB2.out.set 1 (.int .i64 p1)).set 2 (.int .i64 p2)
        · exact own_eq (own_set (own_set (own_set O3.out NE2.out) NE2.out) NE2.out) rfl (by rw [U32_app]; rfl)
        · show _ ≤ _
          rw [size_setCell, size_setCell, size_setCell]
          exact Nat.le_trans BSZ.out HSZ.out
      case measure => simp [intOf]; omega
    · obtain rfl : k = l.length := by omega
      rw [List.take_length] at hxs hB
      have hm' := hm.out
      have hx' := hxs.out
      go_wp2
      go_end0
      refine HR.out u wr hB.out (own_eq hO.out ?_ (by rw [hx'])) hne.out hB.out.grow
      rw [hm', List.length_append, List.length_cons, putPts_len]
      omega
end Go.Proofs.YtjalimkajcjapaaDoor

namespace Go.Proofs.YtjalimkajcjapaaDoor
open Go.RowKit

/-- n points behind a -/
def ptsS : Nat → Pt → List Int → Except Int (List Pt × List Int)
  | 0, _, l => .ok ([], l)
  | n + 1, a, l => match l with
    | [] => .error 2
    | x :: l => if inm (a.x + zag x) = false then .error 8 else match l with
      | [] => .error 2
      | y :: l => if inm (a.y + zag y) = false then .error 8 else
        match ptsS n ⟨a.x + zag x, a.y + zag y⟩ l with
        | .error e => .error e
        | .ok (ps, r) => .ok (⟨a.x + zag x, a.y + zag y⟩ :: ps, r)
/-- a command of a kind, and its points -/
def cmdS (k low high : Int) (a : Pt) : List Int → Except Int (List Pt × List Int)
  | [] => .error 2
  | c :: l => if c % 8 ≠ k ∨ c / 8 < low ∨ high < c / 8 then .error 3 else ptsS (c / 8).toNat a l
def endS (kind : Int) (p : List Pt) (l : List Int) : Except Int (List Pt × List Int) :=
  if kind = 3 then match l with
    | [] => .error 2
    | c :: l => if c = 15 then .ok (p, l) else .error 3
  else .ok (p, l)
/-- a path of lines, or of polygons -/
def pathS (kind : Int) (a : Pt) (l : List Int) : Except Int (List Pt × List Int) :=
  match cmdS 1 1 1 a l with
  | .error e => .error e
  | .ok (p, l) => match cmdS 2 (kind - 1) 536870912 (lastPt a p) l with
    | .error e => .error e
    | .ok (q, l) => endS kind (p ++ q) l
def decG : Nat → Int → Pt → List Int → Except Int (List (List Pt))
  | 0, _, _, _ => .ok []
  | f + 1, kind, a, l => match pathS kind a l with
    | .error e => .error e
    | .ok (p, []) => .ok [p]
    | .ok (p, c :: l) => match decG f kind (lastPt a p) (c :: l) with
      | .error e => .error e
      | .ok ps => .ok (p :: ps)
def dec1 (l : List Int) : Except Int (List (List Pt)) :=
  match cmdS 1 1 536870912 ⟨0, 0⟩ l with
  | .error e => .error e
  | .ok (p, []) => .ok [p]
  | .ok (_, _ :: _) => .error 3
def decS (kind : Int) (l : List Int) : Except Int (List (List Pt)) :=
  if kind < 1 ∨ 3 < kind then .error 1 else if kind = 1 then dec1 l else decG (l.length + 1) kind ⟨0, 0⟩ l

def encG (kind : Int) : Pt → List (List Pt) → List Int
  | _, [] => []
  | a, p :: ps => 9 :: putPts (p.take 1) a ++ (((p.length - 1 : Nat) : Int) * 8 + 2) :: putPts (p.drop 1) (lastPt a (p.take 1)) ++ (if kind = 3 then [15] else []) ++ encG kind (lastPt a p) ps
def encS (kind : Int) : List (List Pt) → List Int
  | [] => []
  | p :: ps => if kind = 1 then ((((p.length : Nat) : Int) * 8 + 1) :: putPts p ⟨0, 0⟩) else encG kind ⟨0, 0⟩ (p :: ps)

theorem zig_zag (n : Int) (h : 0 ≤ n) : zig (zag n) = n := by unfold zig zag; split <;> split <;> omega
theorem inm_iff {n : Int} : inm n = true ↔ -1048576 ≤ n ∧ n ≤ 1048576 := by simp [inm]
theorem ptsS_ok : ∀ (n : Nat) (a : Pt) (l : List Int) (ps : List Pt) (r : List Int), (∀ x ∈ l, 0 ≤ x) → ptsS n a l = .ok (ps, r) → l = putPts ps a ++ r ∧ ps.length = n ∧ ∀ p ∈ ps, Near p
  | 0, a, l, ps, r, _, h => by
    simp only [ptsS, Except.ok.injEq, Prod.mk.injEq] at h
    obtain ⟨rfl, rfl⟩ := h
    exact ⟨rfl, rfl, fun p hp => by simp at hp⟩
  | n + 1, a, [], ps, r, _, h => by simp [ptsS] at h
  | n + 1, a, [x], ps, r, _, h => by
    simp only [ptsS] at h
    split at h <;> simp at h
  | n + 1, a, x :: y :: l, ps, r, hl, h => by
    simp only [ptsS] at h
    split at h
    · simp at h
    · split at h
      · simp at h
      · rename_i hx hy
        cases hq : ptsS n ⟨a.x + zag x, a.y + zag y⟩ l with
        | error e => rw [hq] at h; simp at h
        | ok q =>
          obtain ⟨qs, r'⟩ := q
          rw [hq] at h
          simp only [Except.ok.injEq, Prod.mk.injEq] at h
          obtain ⟨rfl, rfl⟩ := h
          obtain ⟨e1, e2, e3⟩ := ptsS_ok n _ l qs r' (fun z hz => hl z (by simp [hz])) hq
          have hx' := inm_iff.1 (by simpa using hx)
          have hy' := inm_iff.1 (by simpa using hy)
          refine ⟨?_, by simp [e2], ?_⟩
          · simp only [putPts, List.cons_append]
            rw [← e1, show a.x + zag x - a.x = zag x by omega, show a.y + zag y - a.y = zag y by omega, zig_zag x (hl x (by simp)), zig_zag y (hl y (by simp))]
          · intro p hp
            rcases List.mem_cons.1 hp with rfl | hp
            · exact ⟨hx', hy'⟩
            · exact e3 p hp
theorem ptsS_put : ∀ (ps : List Pt) (a : Pt) (r : List Int), (∀ p ∈ ps, Near p) → ptsS ps.length a (putPts ps a ++ r) = .ok (ps, r)
  | [], a, r, _ => rfl
  | p :: ps, a, r, h => by
    obtain ⟨h1, h2⟩ := h p (by simp)
    have e1 : a.x + zag (zig (p.x - a.x)) = p.x := by rw [zag_zig]; omega
    have e2 : a.y + zag (zig (p.y - a.y)) = p.y := by rw [zag_zig]; omega
    simp only [putPts, List.cons_append, List.length_cons, ptsS]
    rw [e1, e2, if_neg (by rw [inm_iff.2 h1]; decide), if_neg (by rw [inm_iff.2 h2]; decide), ptsS_put ps p r fun q hq => h q (by simp [hq])]
theorem ptsS_len : ∀ (n : Nat) (a : Pt) (l : List Int) (ps : List Pt) (r : List Int), ptsS n a l = .ok (ps, r) → r.length ≤ l.length ∧ ps.length = n ∧ 2 * n + r.length = l.length
  | 0, a, l, ps, r, h => by
    simp only [ptsS, Except.ok.injEq, Prod.mk.injEq] at h
    obtain ⟨rfl, rfl⟩ := h
    exact ⟨Nat.le_refl _, rfl, by omega⟩
  | n + 1, a, [], ps, r, h => by simp [ptsS] at h
  | n + 1, a, [x], ps, r, h => by
    simp only [ptsS] at h
    split at h <;> simp at h
  | n + 1, a, x :: y :: l, ps, r, h => by
    simp only [ptsS] at h
    split at h
    · simp at h
    · split at h
      · simp at h
      · cases hq : ptsS n ⟨a.x + zag x, a.y + zag y⟩ l with
        | error e => rw [hq] at h; simp at h
        | ok q =>
          obtain ⟨qs, r'⟩ := q
          rw [hq] at h
          simp only [Except.ok.injEq, Prod.mk.injEq] at h
          obtain ⟨rfl, rfl⟩ := h
          obtain ⟨e1, e2, e3⟩ := ptsS_len n _ l qs r' hq
          simp only [List.length_cons]
          omega

theorem cmdS_ok {k low high : Int} {a : Pt} {l : List Int} {ps : List Pt} {r : List Int} (hl : ∀ x ∈ l, 0 ≤ x) (h : cmdS k low high a l = .ok (ps, r)) : l = ((ps.length : Int) * 8 + k) :: putPts ps a ++ r ∧ low ≤ (ps.length : Int) ∧ (ps.length : Int) ≤ high ∧ ∀ p ∈ ps, Near p := by
  cases l with
  | nil => simp [cmdS] at h
  | cons c l =>
    simp only [cmdS] at h
    split at h
    · simp at h
    · rename_i hc
      obtain ⟨e1, e2, e3⟩ := ptsS_ok _ _ _ _ _ (fun z hz => hl z (by simp [hz])) h
      have h0 := hl c (by simp)
      refine ⟨?_, by omega, by omega, e3⟩
      rw [List.cons_append, ← e1]
      congr 1
      omega
theorem cmdS_put {k low high : Int} {a : Pt} {ps : List Pt} {r : List Int} (hk : 0 ≤ k ∧ k < 8) (h1 : low ≤ (ps.length : Int)) (h2 : (ps.length : Int) ≤ high) (hn : ∀ p ∈ ps, Near p) : cmdS k low high a (((ps.length : Int) * 8 + k) :: putPts ps a ++ r) = .ok (ps, r) := by
  rw [List.cons_append]
  simp only [cmdS]
  rw [if_neg (by omega), show (((ps.length : Int) * 8 + k) / 8).toNat = ps.length by omega]
  exact ptsS_put ps a r hn
theorem cmdS_len {k low high : Int} {a : Pt} {l : List Int} {ps : List Pt} {r : List Int} (h : cmdS k low high a l = .ok (ps, r)) : r.length < l.length ∧ ps.length ≤ l.length := by
  cases l with
  | nil => simp [cmdS] at h
  | cons c l =>
    simp only [cmdS] at h
    split at h
    · simp at h
    · have := ptsS_len _ _ _ _ _ h
      simp only [List.length_cons]
      omega

theorem lastPt_app (a : Pt) (p q : List Pt) : lastPt (lastPt a p) q = lastPt a (p ++ q) := by
  cases q with
  | nil => simp [lastPt]
  | cons x q => simp [lastPt, List.getLast?_append]

theorem pathS_ok {kind : Int} {a : Pt} {l : List Int} {p : List Pt} {r : List Int} (hl : ∀ x ∈ l, 0 ≤ x) (h : pathS kind a l = .ok (p, r)) :
    l = 9 :: putPts (p.take 1) a ++ (((p.length - 1 : Nat) : Int) * 8 + 2) :: putPts (p.drop 1) (lastPt a (p.take 1)) ++ (if kind = 3 then [15] else []) ++ r ∧ kind ≤ (p.length : Int) ∧ ∀ x ∈ p, Near x := by
  unfold pathS at h
  cases h1 : cmdS 1 1 1 a l with
  | error e => rw [h1] at h; simp at h
  | ok v =>
    obtain ⟨p1, l1⟩ := v
    rw [h1] at h
    dsimp only at h
    obtain ⟨e1, e2, e3, e4⟩ := cmdS_ok hl h1
    have hl1 : ∀ x ∈ l1, 0 ≤ x := fun x hx => hl x (by rw [e1]; simp [hx])
    obtain ⟨x, rfl⟩ : ∃ x, p1 = [x] := List.length_eq_one_iff.1 (by omega)
    cases h2 : cmdS 2 (kind - 1) 536870912 (lastPt a [x]) l1 with
    | error e => rw [h2] at h; simp at h
    | ok v =>
      obtain ⟨q, l2⟩ := v
      rw [h2] at h
      dsimp only at h
      obtain ⟨g1, g2, g3, g4⟩ := cmdS_ok hl1 h2
      have hq : p = x :: q ∧ l2 = (if kind = 3 then [15] else []) ++ r := by
        unfold endS at h
        by_cases hk3 : kind = 3
        · rw [if_pos hk3] at h ⊢
          cases l2 with
          | nil => simp at h
          | cons c l2 =>
            dsimp only at h
            by_cases hc : c = 15
            · rw [if_pos hc] at h
              simp only [Except.ok.injEq, Prod.mk.injEq] at h
              obtain ⟨rfl, rfl⟩ := h
              exact ⟨rfl, by rw [hc]; rfl⟩
            · rw [if_neg hc] at h; simp at h
        · rw [if_neg hk3] at h ⊢
          simp only [Except.ok.injEq, Prod.mk.injEq] at h
          obtain ⟨rfl, rfl⟩ := h
          exact ⟨rfl, rfl⟩
      obtain ⟨rfl, rfl⟩ := hq
      refine ⟨?_, by simp only [List.length_cons]; omega, ?_⟩
      · simp only [List.take_succ_cons, List.take_zero, List.drop_succ_cons, List.drop_zero, List.length_cons, Nat.add_sub_cancel]
        rw [e1, g1]
        simp
      · intro y hy
        rcases List.mem_cons.1 hy with rfl | hy
        · exact e4 y (by simp)
        · exact g4 y hy
theorem pathS_put {kind : Int} {a : Pt} {p : List Pt} {r : List Int} (hk : 1 < kind) (hp : kind ≤ (p.length : Int)) (hb : p.length ≤ 1000) (hn : ∀ x ∈ p, Near x) :
    pathS kind a (9 :: putPts (p.take 1) a ++ (((p.length - 1 : Nat) : Int) * 8 + 2) :: putPts (p.drop 1) (lastPt a (p.take 1)) ++ (if kind = 3 then [15] else []) ++ r) = .ok (p, r) := by
  cases p with
  | nil => simp at hp; omega
  | cons x q =>
    simp only [List.take_succ_cons, List.take_zero, List.drop_succ_cons, List.drop_zero, List.length_cons, Nat.add_sub_cancel]
    have h1 := cmdS_put (k := 1) (low := 1) (high := 1) (a := a) (ps := [x]) (r := ((q.length : Int) * 8 + 2) :: putPts q (lastPt a [x]) ++ (if kind = 3 then [15] else []) ++ r) ⟨by decide, by decide⟩ (by simp) (by simp) (fun y hy => hn y (by rw [List.mem_singleton.1 hy]; simp))
    have h2 := cmdS_put (k := 2) (low := kind - 1) (high := 536870912) (a := lastPt a [x]) (ps := q) (r := (if kind = 3 then [15] else []) ++ r) ⟨by decide, by decide⟩ (by simp only [List.length_cons] at hp; omega) (by simp only [List.length_cons] at hb; omega) (fun y hy => hn y (by simp [hy]))
    unfold pathS
    have e : (9 :: putPts [x] a ++ ((q.length : Int) * 8 + 2) :: putPts q (lastPt a [x]) ++ (if kind = 3 then [15] else []) ++ r) = ((([x] : List Pt).length : Int) * 8 + 1) :: putPts [x] a ++ (((q.length : Int) * 8 + 2) :: putPts q (lastPt a [x]) ++ (if kind = 3 then [15] else []) ++ r) := by simp
    rw [e, h1]
    dsimp only
    have e2 : (((q.length : Int) * 8 + 2) :: putPts q (lastPt a [x]) ++ (if kind = 3 then [15] else []) ++ r) = (((q.length : Int) * 8 + 2) :: putPts q (lastPt a [x]) ++ ((if kind = 3 then [15] else []) ++ r)) := by simp
    rw [e2, h2]
    dsimp only
    unfold endS
    by_cases hk3 : kind = 3
    · rw [if_pos hk3, if_pos hk3]; rfl
    · rw [if_neg hk3, if_neg hk3]; rfl
theorem pathS_len {kind : Int} {a : Pt} {l : List Int} {p : List Pt} {r : List Int} (h : pathS kind a l = .ok (p, r)) : r.length < l.length ∧ p.length ≤ 2 * l.length ∧ p ≠ [] := by
  unfold pathS at h
  cases h1 : cmdS 1 1 1 a l with
  | error e => rw [h1] at h; simp at h
  | ok v =>
    obtain ⟨p1, l1⟩ := v
    rw [h1] at h
    dsimp only at h
    have e1 := cmdS_len h1
    have e0 : p1 ≠ [] := by
      cases l with
      | nil => simp [cmdS] at h1
      | cons c l =>
        simp only [cmdS] at h1
        split at h1
        · simp at h1
        · have := ptsS_len _ _ _ _ _ h1
          intro e
          rw [e] at this
          simp at this
          omega
    cases h2 : cmdS 2 (kind - 1) 536870912 (lastPt a p1) l1 with
    | error e => rw [h2] at h; simp at h
    | ok v =>
      obtain ⟨q, l2⟩ := v
      rw [h2] at h
      dsimp only at h
      have e2 := cmdS_len h2
      unfold endS at h
      split at h
      · cases l2 with
        | nil => simp at h
        | cons c l2 =>
          dsimp only at h
          split at h
          · simp only [Except.ok.injEq, Prod.mk.injEq] at h
            obtain ⟨rfl, rfl⟩ := h
            simp only [List.length_append, List.length_cons] at *
            refine ⟨by omega, by omega, by simp [e0]⟩
          · simp at h
      · simp only [Except.ok.injEq, Prod.mk.injEq] at h
        obtain ⟨rfl, rfl⟩ := h
        simp only [List.length_append] at *
        exact ⟨by omega, by omega, by simp [e0]⟩

theorem decG_ok {kind : Int} (hk : 1 < kind) : ∀ (f : Nat) (a : Pt) (l : List Int) (ps : List (List Pt)), l.length < f → (∀ x ∈ l, 0 ≤ x) → decG f kind a l = .ok ps → l = encG kind a ps ∧ ps ≠ [] ∧ ∀ p ∈ ps, kind ≤ (p.length : Int) ∧ ∀ x ∈ p, Near x
  | 0, a, l, ps, hf, _, _ => by omega
  | f + 1, a, l, ps, hf, hl, h => by
    simp only [decG] at h
    cases h1 : pathS kind a l with
    | error e => rw [h1] at h; simp at h
    | ok v =>
      obtain ⟨p, r⟩ := v
      rw [h1] at h
      obtain ⟨e1, e2, e3⟩ := pathS_ok hl h1
      have hlen := pathS_len h1
      cases r with
      | nil =>
        simp only [Except.ok.injEq] at h
        subst h
        refine ⟨by rw [e1]; simp [encG], by simp, fun q hq => ?_⟩
        rw [List.mem_singleton.1 hq]
        exact ⟨e2, e3⟩
      | cons c r =>
        dsimp only at h
        cases h2 : decG f kind (lastPt a p) (c :: r) with
        | error e => rw [h2] at h; simp at h
        | ok qs =>
          rw [h2] at h
          simp only [Except.ok.injEq] at h
          subst h
          obtain ⟨g1, g2, g3⟩ := decG_ok hk f _ (c :: r) qs (by omega) (fun x hx => hl x (by rw [e1]; simp only [List.mem_append]; exact .inr hx)) h2
          refine ⟨by rw [e1, g1]; simp [encG], by simp, fun q hq => ?_⟩
          rcases List.mem_cons.1 hq with rfl | hq
          · exact ⟨e2, e3⟩
          · exact g3 q hq
theorem encG_ne {kind : Int} {a : Pt} {p : List Pt} {ps : List (List Pt)} : ∃ c r, encG kind a (p :: ps) = c :: r := ⟨9, _, by simp only [encG, List.cons_append]; rfl⟩
theorem decG_put {kind : Int} (hk : 1 < kind) : ∀ (ps : List (List Pt)) (f : Nat) (a : Pt), ps ≠ [] → (encG kind a ps).length < f → (∀ p ∈ ps, kind ≤ (p.length : Int) ∧ p.length ≤ 1000 ∧ ∀ x ∈ p, Near x) → decG f kind a (encG kind a ps) = .ok ps
  | [], _, _, h, _, _ => absurd rfl h
  | p :: ps, 0, a, _, hf, _ => by omega
  | p :: ps, f + 1, a, _, hf, h => by
    obtain ⟨h1, h2, h3⟩ := h p (by simp)
    have hp := pathS_put (a := a) (r := encG kind (lastPt a p) ps) hk h1 h2 h3
    have hlen := pathS_len hp
    have e : encG kind a (p :: ps) = (9 :: putPts (p.take 1) a ++ (((p.length - 1 : Nat) : Int) * 8 + 2) :: putPts (p.drop 1) (lastPt a (p.take 1)) ++ (if kind = 3 then [15] else []) ++ encG kind (lastPt a p) ps) := rfl
    rw [← e] at hp hlen
    simp only [decG]
    rw [hp]
    cases ps with
    | nil => rfl
    | cons q qs =>
      obtain ⟨c, r, hc⟩ := encG_ne (kind := kind) (a := lastPt a p) (p := q) (ps := qs)
      have ih := decG_put hk (q :: qs) f (lastPt a p) (by simp) (by omega) (fun p hp => h p (by simp [hp]))
      rw [hc] at ih ⊢
      dsimp only
      rw [ih]
/-- P9.4: what is decoded, and encoded, is the same numbers -/
theorem dec_enc {kind : Int} {l : List Int} {ps : List (List Pt)} (hl : ∀ x ∈ l, 0 ≤ x) (h : decS kind l = .ok ps) :
    (1 ≤ kind ∧ kind ≤ 3) ∧ encS kind ps = l ∧ ps ≠ [] ∧ (kind = 1 → ps.length = 1) ∧ ∀ p ∈ ps, kind ≤ (p.length : Int) ∧ ∀ x ∈ p, Near x := by
  unfold decS at h
  split at h
  · simp at h
  · rename_i hk
    split at h
    · rename_i h1
      subst h1
      unfold dec1 at h
      cases h2 : cmdS 1 1 536870912 ⟨0, 0⟩ l with
      | error e => rw [h2] at h; simp at h
      | ok v =>
        obtain ⟨p, r⟩ := v
        rw [h2] at h
        cases r with
        | nil =>
          simp only [Except.ok.injEq] at h
          subst h
          obtain ⟨e1, e2, e3, e4⟩ := cmdS_ok hl h2
          refine ⟨⟨by omega, by omega⟩, by rw [e1]; simp [encS], by simp, by simp, fun q hq => ?_⟩
          rw [List.mem_singleton.1 hq]
          exact ⟨e2, e4⟩
        | cons c r => simp at h
    · rename_i h1
      obtain ⟨e1, e2, e3⟩ := decG_ok (by omega) _ _ _ _ (by omega) hl h
      refine ⟨⟨by omega, by omega⟩, ?_, e2, fun h => absurd h h1, e3⟩
      cases ps with
      | nil => exact absurd rfl e2
      | cons p ps => simp only [encS, if_neg h1]; exact e1.symm
/-- P9.4: what is encoded is decoded -/
theorem enc_dec {kind : Int} {ps : List (List Pt)} (hk : 1 ≤ kind ∧ kind ≤ 3) (hne : ps ≠ []) (h1 : kind = 1 → ps.length = 1) (h : ∀ p ∈ ps, kind ≤ (p.length : Int) ∧ p.length ≤ 1000 ∧ ∀ x ∈ p, Near x) : decS kind (encS kind ps) = .ok ps := by
  cases ps with
  | nil => exact absurd rfl hne
  | cons p ps =>
    unfold decS
    rw [if_neg (by omega)]
    by_cases hk1 : kind = 1
    · obtain rfl : ps = [] := by
        have := h1 hk1
        cases ps with
        | nil => rfl
        | cons q qs => simp at this
      obtain ⟨g1, g2, g3⟩ := h p (by simp)
      rw [if_pos hk1]
      simp only [encS, if_pos hk1]
      have := cmdS_put (k := 1) (low := 1) (high := 536870912) (a := ⟨0, 0⟩) (ps := p) (r := []) ⟨by decide, by decide⟩ (by omega) (by omega) g3
      rw [List.append_nil] at this
      unfold dec1
      rw [this]
    · rw [if_neg hk1]
      simp only [encS, if_neg hk1]
      exact decG_put (by omega) _ _ _ (by simp) (Nat.lt_succ_self _) h
end Go.Proofs.YtjalimkajcjapaaDoor

namespace Go.Proofs.YtjalimkajcjapaaDoor
open Go.RowKit B

def preP (ps : List Pt) : Except Int (List Pt × List Int) → Except Int (List Pt × List Int)
  | .error e => .error e
  | .ok (qs, t) => .ok (ps ++ qs, t)
theorem preP_app (ps qs : List Pt) (r : Except Int (List Pt × List Int)) : preP ps (preP qs r) = preP (ps ++ qs) r := by
  cases r with
  | error e => rfl
  | ok v => obtain ⟨x, t⟩ := v; simp [preP]
theorem preP_nil (r : Except Int (List Pt × List Int)) : preP [] r = r := by
  cases r with
  | error e => rfl
  | ok v => obtain ⟨x, t⟩ := v; rfl
section
variable {l : List Int} {m j : Nat} {a : Pt}
theorem pts_end (h : l.length ≤ j) : ptsS (m + 1) a (l.drop j) = .error 2 := by rw [List.drop_eq_nil_of_le h]; rfl
theorem pts_x (h : j < l.length) (hx : inm (a.x + zag l[j]) = false) : ptsS (m + 1) a (l.drop j) = .error 8 := by
  rw [List.drop_eq_getElem_cons h]
  simp only [ptsS]
  rw [if_pos hx]
theorem pts_mid (h : j < l.length) (hx : inm (a.x + zag l[j]) = true) (h2 : l.length ≤ j + 1) : ptsS (m + 1) a (l.drop j) = .error 2 := by
  rw [List.drop_eq_getElem_cons h, List.drop_eq_nil_of_le h2]
  simp only [ptsS]
  rw [if_neg (by rw [hx]; decide)]
theorem pts_y (h : j + 1 < l.length) (hx : inm (a.x + zag l[j]) = true) (hy : inm (a.y + zag l[j + 1]) = false) : ptsS (m + 1) a (l.drop j) = .error 8 := by
  rw [List.drop_eq_getElem_cons (by omega), List.drop_eq_getElem_cons h]
  simp only [ptsS]
  rw [if_neg (by rw [hx]; decide), if_pos hy]
theorem pts_go (h : j + 1 < l.length) (hx : inm (a.x + zag l[j]) = true) (hy : inm (a.y + zag l[j + 1]) = true) : ptsS (m + 1) a (l.drop j) = preP [⟨a.x + zag l[j], a.y + zag l[j + 1]⟩] (ptsS m ⟨a.x + zag l[j], a.y + zag l[j + 1]⟩ (l.drop (j + 1 + 1))) := by
  rw [List.drop_eq_getElem_cons (by omega), List.drop_eq_getElem_cons h]
  simp only [ptsS]
  rw [if_neg (by rw [hx]; decide), if_neg (by rw [hy]; decide)]
  cases ptsS m ⟨a.x + zag l[j], a.y + zag l[j + 1]⟩ (l.drop (j + 1 + 1)) with
  | error e => rfl
  | ok v => obtain ⟨x, t⟩ := v; rfl
end
theorem and_u32_7 (x : Int) (h : 0 ≤ x ∧ x ≤ 4294967295) : bits .and .u32 x 7 = x % 8 := by
  show IntKind.u32.wrap ((BitVec.ofInt 32 x &&& BitVec.ofInt 32 7).toNat : Int) = _
  obtain ⟨n, rfl⟩ := Int.eq_ofNat_of_zero_le h.1
  rw [BitVec.toNat_and, BitVec.ofInt_natCast, show BitVec.ofInt 32 7 = BitVec.ofNat 32 7 from rfl, BitVec.toNat_ofNat, BitVec.toNat_ofNat, Nat.mod_eq_of_lt (by omega), IntKind.wrap_u32, show (7 % 2 ^ 32 : Nat) = 2 ^ 3 - 1 by decide, Nat.and_two_pow_sub_one_eq_mod]
  omega

set_option maxRecDepth 100000 in
set_option maxHeartbeats 2000000 in
theorem closed_any (l : List Int) (lv : Value) (rb i : Nat) (a : Pt) (w0 w : World) (hB : RdrB w0 rb lv i a w) (hl : Rd w0 (· < w0.heap.size) 1 lv l.length (U32 l)) {R : Ending → World → Prop}
    (hS : l.length ≤ i → ∀ w', w.grownBy w' (some rb) → R (.panicked (stopE 2)) w')
    (hE : ∀ (h : i < l.length), l[i] ≠ 15 → ∀ w', w.grownBy w' (some rb) → R (.panicked (stopE 3)) w')
    (hR : ∀ (h : i < l.length), l[i] = 15 → ∀ w', RdrB w0 rb lv (i + 1) a w' → w.grownBy w' (some rb) → R (.returned (.tuple #[])) w') :
    Calls Tryd.prog 77 #[.pointer (some ⟨rb, 0, none⟩)] w R := by
  have HR := Lib.hid hR
  have HS := Lib.hid hS
  have HE := Lib.hid hE
  have NX := Lib.hid fun (R : Ending → World → Prop) hS hR => next_any l lv rb i a w0 w hB hl (R := R) hS hR
  clear hR hS hE hB hl
  go_enter Tryd.func77, Tryd.ntmps77
  go_wp2_with fail
  go_at_call 75
  refine NX.out _ ?_ ?_
  · intro h w' hg
    exact ⟨rfl, HS.out h w' hg⟩
  · intro h w1 hB1 hg1
    have G1 := Lib.hid hg1
    have B1 := Lib.hid hB1
    have HE1 := Lib.hid (HE.out h)
    have HR1 := Lib.hid (HR.out h)
    clear hg1 hB1 NX HR HE HS
    generalize l[i] = x at *
    by_cases hx : x = 15
    · have HR2 := Lib.hid (HR1.out hx)
      subst hx
      go_wp2
      refine bodyPost_ret (results_none rfl _ _ _) rfl ?_
      exact HR2.out _ B1.out G1.out
    · have HE2 := Lib.hid (HE1.out hx)
      have t1 : (x != 15) = true := by rw [bne_iff_ne]; exact hx
      clear hx
      go_wp2
      exact ⟨rfl, HE2.out _ G1.out⟩

theorem el_pt : Elem Tryd.prog 78 115 (.agg #[.int .i64 0, .int .i64 0]) 2 16 := ⟨by kernel_rfl, by kernel_rfl, rfl, by decide, by decide⟩

set_option maxRecDepth 100000 in
set_option maxHeartbeats 8000000 in
theorem points_any (k : Nat) (low high : Int) (l : List Int) (lv : Value) (rb i : Nat) (a : Pt) (w0 w : World) (hB : RdrB w0 rb lv i a w) (hl : Rd w0 (· < w0.heap.size) 1 lv l.length (U32 l)) (hu : ∀ x ∈ l, 0 ≤ x ∧ x ≤ 4294967295) (ha : Near a) (_hlen : l.length ≤ 1000) {R : Ending → World → Prop}
    (hE : ∀ e, cmdS k low high a (l.drop i) = .error e → ∀ w', w.grownBy w' (some rb) → R (.panicked (stopE e)) w')
    (hR : ∀ ps j, cmdS k low high a (l.drop i) = .ok (ps, l.drop j) → j ≤ l.length → ∀ v w', RdrB w0 rb lv j (lastPt a ps) w' → w'.ownsRow w.heap.size 115 2 v ps.length (Pts ps) → w.grownBy w' (some rb) → Near (lastPt a ps) → R (.returned v) w') :
    Calls Tryd.prog 73 #[.pointer (some ⟨rb, 0, none⟩), .int .i64 k, .int .i64 low, .int .i64 high] w R := by
  have HR := Lib.hid hR
  have HE := Lib.hid hE
  have HU := Lib.hid hu
  have HA := Lib.hid ha
  have HB := Lib.hid hB
  have NX := Lib.hid fun (R : Ending → World → Prop) hS hR => next_any l lv rb i a w0 w hB hl (R := R) hS hR
  have CO := Lib.hid fun j b n W (h : RdrB w0 rb lv j b W) (hn : inm n = true) (R : Ending → World → Prop) hS hE hR => coord_any l lv rb j b n w0 W h hl hu hn (R := R) hS hE hR
  clear hR hE hu hB hl ha
  go_enter Tryd.func73, Tryd.ntmps73
  go_wp2_with fail
  go_at_call 75
  refine NX.out _ ?_ ?_
  · intro h w' hg
    exact ⟨rfl, HE.out 2 (by rw [List.drop_eq_nil_of_le h]; rfl) w' hg⟩
  · intro h w1 hB1 hg1
    have G1 := Lib.hid hg1
    have B1 := Lib.hid hB1
    have hx := HU.out l[i] (List.getElem_mem h)
    have CS : Hid (cmdS k low high a (l.drop i) = if l[i] % 8 ≠ k ∨ l[i] / 8 < low ∨ high < l[i] / 8 then .error 3 else ptsS (l[i] / 8).toNat a (l.drop (i + 1))) := by
      show _ = _
      rw [List.drop_eq_getElem_cons h]
      rfl
    clear hg1 hB1 NX
    have ea := and_u32_7 _ hx
    generalize l[i] = x at *
    by_cases hc : x % 8 ≠ k ∨ x / 8 < low ∨ high < x / 8
    · have CS2 : Hid (cmdS k low high a (l.drop i) = .error 3) := by have := CS.out; rw [if_pos hc] at this; exact this
      clear CS B1 CO HB
      by_cases h1 : x % 8 = k
      · have t1 : (x % 8 != (k : Int)) = false := by rw [bne_eq_false_iff_eq]; exact h1
        by_cases h2 : x / 8 < low
        · have t2 : decide (x / 8 < low) = true := decide_eq_true h2
          clear hc h1 h2
          go_wp2
          exact ⟨rfl, HE.out 3 CS2.out _ G1.out⟩
        · have t2 : decide (x / 8 < low) = false := decide_eq_false h2
          have t3 : decide (high < x / 8) = true := decide_eq_true (by omega)
          clear hc h1 h2
          go_wp2
          exact ⟨rfl, HE.out 3 CS2.out _ G1.out⟩
      · have t1 : (x % 8 != (k : Int)) = true := by rw [bne_iff_ne]; exact h1
        clear hc h1
        go_wp2
        exact ⟨rfl, HE.out 3 CS2.out _ G1.out⟩
    · have t1 : (x % 8 != (k : Int)) = false := by rw [bne_eq_false_iff_eq]; omega
      have t2 : decide (x / 8 < low) = false := decide_eq_false (by omega)
      have t3 : decide (high < x / 8) = false := decide_eq_false (by omega)
      have CS2 : Hid (cmdS k low high a (l.drop i) = ptsS (x / 8).toNat a (l.drop (i + 1))) := by have := CS.out; rw [if_neg hc] at this; exact this
      obtain ⟨n, hn⟩ : ∃ n : Nat, x / 8 = (n : Int) := ⟨(x / 8).toNat, by omega⟩
      rw [hn, Int.toNat_natCast] at CS2
      have hnb : n ≤ 536870912 := by omega
      rw [hn] at t2 t3
      clear hc CS
      go_wp2
      try simp only [hn]
      clear t1 t2 t3 hn ea hx
      have HWW := Lib.hid ((HB.out : BoxH w0 rb _ _ w).grow.size)
      go_loopw [35, 11] (fun i' s wr => ∃ (m j : Nat) (a' : Pt) (ps : List Pt), m ≤ n ∧ i' = .int .i64 m ∧ Hid (RdrB w0 rb lv j a' wr) ∧ Hid (2 * m ≤ j ∧ j ≤ l.length) ∧ Hid (wr.ownsRow w.heap.size 115 2 s m (Pts ps)) ∧ Hid (ps.length = m) ∧ Hid (a' = lastPt a ps) ∧ Hid (ptsS n a (l.drop (i + 1)) = preP ps (ptsS (n - m) a' (l.drop j))) ∧ Hid (w.grownBy wr (some rb)) ∧ Hid (s.ownBlock ≠ some rb) ∧ Hid (Near a')) (fun i' _ _ => n - (intOf i').toNat)
      case atStart => exact ⟨0, i + 1, a, [], Nat.zero_le _, rfl, B1.out, ⟨by omega, by omega⟩, World.ownsRow_nil _ _ _ _, rfl, (show a = lastPt a [] from rfl), (preP_nil _).symm, G1.out, (show (Value.slice none 0 0).ownBlock ≠ some rb from by simp [Value.ownBlock]), HA.out⟩
      case round =>
        clear B1 G1 HA HB
        obtain ⟨m, j, a', ps, hm, rfl, hB, hj, hO, hps, ha', hpt, hg, hne, hna⟩ := hrel
        by_cases hlt : m < n
        · obtain ⟨k', hk'⟩ : ∃ k', n - m = k' + 1 := ⟨n - m - 1, by omega⟩
          have hk2 : n - (m + 1) = k' := by omega
          rw [hk'] at hpt
          have hB0 : BoxH w0 rb _ _ wr := hB.out
          have b2 := hB0.cell 2
          obtain ⟨ax, ay⟩ := a'
          have HNX := Lib.hid (inm_iff.2 hna.out.1)
          have HNY := Lib.hid (inm_iff.2 hna.out.2)
          dsimp only at b2 HNX HNY
          clear hB0 hna
          go_wp2_with fail
          clear b2
          go_at_call 76
          refine CO.out j ⟨ax, ay⟩ ax wr hB.out HNX.out _ ?_ ?_ ?_
          · intro h w' hg'
            exact ⟨rfl, HE.out 2 (by rw [CS2.out, hpt.out, pts_end h]; rfl) _ (by_tr hg.out hg')⟩
          · intro h hx w' hg'
            exact ⟨rfl, HE.out 8 (by rw [CS2.out, hpt.out, pts_x h hx]; rfl) _ (by_tr hg.out hg')⟩
          · intro h hx w2 hB2 hg2
            have HX := Lib.hid hx
            have GG2 := Lib.hid (by_tr hg.out hg2)
            have OO2 := Lib.hid (hO.out.kept hg2 (.inr hne.out))
            have ZX := Lib.hid (show ax + zag l[j] = ax + zag l[j] from rfl)
            obtain ⟨X, hX⟩ : ∃ X, ax + zag l[j] = X := ⟨_, rfl⟩
            rw [hX] at hx
            rw [hX]
            have HXE := Lib.hid hX
            have HNX2 := Lib.hid hx
            have hB3 : BoxH w0 rb _ _ (w2.setCell ⟨rb, 2, none⟩ (.int .i64 X)) := (hB2 : BoxH w0 rb _ _ w2).set 2 (.int .i64 X)
            have GG3 := Lib.hid (by_tr GG2.out (by_set (Grow.refl w2) rb 2 (.int .i64 X)))
            have OO3 := Lib.hid (own_set (j := 2) (u := .int .i64 X) OO2.out hne.out)
            have B3 : Hid (RdrB w0 rb lv (j + 1) ⟨X, ay⟩ (w2.setCell ⟨rb, 2, none⟩ (.int .i64 X))) := hB3
            have c2 := (hB2 : BoxH w0 rb _ _ w2).cell 2
            have f2 := (hB2 : BoxH w0 rb _ _ w2).free 2
            have c3 := hB3.cell 3
            clear hx hX hg2 hB2 hB3 GG2 OO2 hg hO
            go_wp2_with fail
            clear c2 f2 c3
            go_at_call 76
            refine CO.out (j + 1) ⟨X, ay⟩ ay _ B3.out HNY.out _ ?_ ?_ ?_
            · intro h2 w' hg'
              exact ⟨rfl, HE.out 2 (by rw [CS2.out, hpt.out, pts_mid h HX.out h2]; rfl) _ (by_tr GG3.out hg')⟩
            · intro h2 hy w' hg'
              exact ⟨rfl, HE.out 8 (by rw [CS2.out, hpt.out, pts_y h2 HX.out hy]; rfl) _ (by_tr GG3.out hg')⟩
            · intro h2 hy w4 hB4 hg4
              have GG4 := Lib.hid (by_tr GG3.out hg4)
              have OO4 := Lib.hid (OO3.out.kept hg4 (.inr hne.out))
              have PT : Hid (ptsS n a (l.drop (i + 1)) = preP (ps ++ [⟨X, ay + zag l[j + 1]⟩]) (ptsS k' ⟨X, ay + zag l[j + 1]⟩ (l.drop (j + 1 + 1)))) := by
                show _ = _
                rw [hpt.out, pts_go h2 HX.out hy, HXE.out, preP_app]
              obtain ⟨Y, hY⟩ : ∃ Y, ay + zag l[j + 1] = Y := ⟨_, rfl⟩
              rw [hY] at hy PT
              rw [hY]
              have HNY2 := Lib.hid hy
              have hB5 : BoxH w0 rb #[lv, .int .i64 ((j + 1 + 1 : Nat) : Int), .int .i64 X, .int .i64 Y] 143 (w4.setCell ⟨rb, 3, none⟩ (.int .i64 Y)) := (hB4 : BoxH w0 rb _ _ w4).set 3 (.int .i64 Y)
              have GG5 := Lib.hid (by_tr GG4.out (by_set (Grow.refl w4) rb 3 (.int .i64 Y)))
              have OO5 := Lib.hid (own_set (j := 3) (u := .int .i64 Y) OO4.out hne.out)
              have B5 := Lib.hid hB5
              have S5 : Hid (w.heap.size ≤ (w4.setCell ⟨rb, 3, none⟩ (.int .i64 Y)).heap.size) := GG5.out.size
              have c3 := (hB4 : BoxH w0 rb _ _ w4).cell 3
              have f3 := (hB4 : BoxH w0 rb _ _ w4).free 3
              have d2 := hB5.cell 2
              have d3 := hB5.cell 3
              have H2 := Lib.hid h2
              clear hy hY hg4 hB4 hB5 GG4 OO4 GG3 OO3 B3 ZX HX HXE CO HE
              go_wp2_with (at_builtin; refine wpList_newAt rfl _ _ rfl el_pt OO5.out rfl 1 _ (size_setCell _ _ _) _ rfl (by decide) rfl (by simp [Value.oneCell']) (by have := hj.out; omega) B5.out.grow ⟨HWW.out, S5.out⟩ ?_; intro v6 w6 hown6 hg6 hgr6 hb6)
              have O6 := Lib.hid hown6
              have B6 := Lib.hid (B5.out.by_ hgr6 (fun k hk => by have := own_ge OO5.out k hk; have := HWW.out; omega) (fun e => hne.out e.symm))
              have NE6 : Hid (v6.ownBlock ≠ some rb) := ins_ne hne.out B5.out.lt hb6
              have GG6 := Lib.hid (by_app GG5.out hgr6 (fun k hk => own_ge OO5.out k hk))
              clear hown6 hg6 hgr6 hb6
              go_roundw
              case rel =>
                refine ⟨m + 1, j + 1 + 1, ⟨X, Y⟩, ps ++ [⟨X, Y⟩], by omega, by go_num, B6.out, (by have := hj.out; have := H2.out; omega : 2 * (m + 1) ≤ j + 1 + 1 ∧ j + 1 + 1 ≤ l.length), own_eq O6.out rfl (by simp [Pts, Pt.cells]), ?_, ?_, ?_, GG6.out, NE6.out, ⟨inm_iff.1 HNX2.out, inm_iff.1 HNY2.out⟩⟩
                · show _ = _
                  rw [List.length_append, hps.out]; rfl
                · exact (lastPt_snoc _ _ _).symm
                · rw [hk2]
                  exact PT.out
              case measure => simp [intOf]; omega
        · obtain rfl : m = n := by omega
          have hpt2 := hpt.out
          rw [Nat.sub_self] at hpt2
          have hlen2 := hps.out
          subst hlen2
          have ha2 := ha'.out
          subst ha2
          go_wp2
          refine HR.out ps j ?_ hj.out.2 _ _ hB.out hO.out hg.out hna.out
          rw [CS2.out, hpt2]
          simp [ptsS, preP]
end Go.Proofs.YtjalimkajcjapaaDoor

namespace Go.Proofs.YtjalimkajcjapaaDoor
open Go.RowKit B

theorem pathS_e1 {kind : Int} {a : Pt} {l : List Int} {e : Int} (h : cmdS 1 1 1 a l = .error e) : pathS kind a l = .error e := by unfold pathS; rw [h]
theorem pathS_e2 {kind : Int} {a : Pt} {l r : List Int} {p : List Pt} {e : Int} (h : cmdS 1 1 1 a l = .ok (p, r)) (h2 : cmdS 2 (kind - 1) 536870912 (lastPt a p) r = .error e) : pathS kind a l = .error e := by unfold pathS; rw [h]; dsimp only; rw [h2]
theorem pathS_o2 {kind : Int} {a : Pt} {l r s : List Int} {p q : List Pt} (h : cmdS 1 1 1 a l = .ok (p, r)) (h2 : cmdS 2 (kind - 1) 536870912 (lastPt a p) r = .ok (q, s)) : pathS kind a l = endS kind (p ++ q) s := by unfold pathS; rw [h]; dsimp only; rw [h2]
theorem cmdS_lenL {l r : List Int} {k low high : Int} {a : Pt} {i : Nat} {ps : List Pt} (h : cmdS k low high a (l.drop i) = .ok (ps, r)) : ps.length ≤ l.length := by
  have := (cmdS_len h).2
  rw [List.length_drop] at this
  omega

set_option maxRecDepth 100000 in
set_option maxHeartbeats 4000000 in
theorem path_any (kind : Int) (l : List Int) (lv : Value) (rb i : Nat) (a : Pt) (w0 w : World) (hk : 2 ≤ kind ∧ kind ≤ 3) (hB : RdrB w0 rb lv i a w) (hl : Rd w0 (· < w0.heap.size) 1 lv l.length (U32 l)) (hu : ∀ x ∈ l, 0 ≤ x ∧ x ≤ 4294967295) (ha : Near a) (hlen : l.length ≤ 1000) {R : Ending → World → Prop}
    (hE : ∀ e, pathS kind a (l.drop i) = .error e → ∀ w', w.grownBy w' (some rb) → R (.panicked (stopE e)) w')
    (hR : ∀ ps j, pathS kind a (l.drop i) = .ok (ps, l.drop j) → j ≤ l.length → ∀ v w', RdrB w0 rb lv j (lastPt a ps) w' → w'.ownsRow w.heap.size 115 2 v ps.length (Pts ps) → w.grownBy w' (some rb) → Near (lastPt a ps) → R (.returned v) w') :
    Calls Tryd.prog 74 #[.pointer (some ⟨rb, 0, none⟩), .int .i64 kind] w R := by
  have HR := Lib.hid hR
  have HE := Lib.hid hE
  have HA := Lib.hid ha
  have HB := Lib.hid hB
  have PO := Lib.hid fun k low high j b W (h : RdrB w0 rb lv j b W) (hn : Near b) (R : Ending → World → Prop) hE hR => points_any k low high l lv rb j b w0 W h hl hu hn hlen (R := R) hE hR
  have CL := Lib.hid fun j b W (h : RdrB w0 rb lv j b W) (R : Ending → World → Prop) hS hE hR => closed_any l lv rb j b w0 W h hl (R := R) hS hE hR
  have HWW := Lib.hid (hB : BoxH w0 rb _ _ w).lt
  have HL := Lib.hid hlen
  clear hR hE hu hB hl ha hlen
  have ew : IntKind.i64.wrap (kind - 1) = kind - 1 := IntWalk.i64_in _ (by omega)
  have HK := Lib.hid hk
  clear hk
  go_enter Tryd.func74, Tryd.ntmps74
  go_wp2_with fail
  go_at_call 73
  refine PO.out 1 1 1 i a w HB.out HA.out _ ?_ ?_
  · intro e he w' hg
    exact ⟨rfl, HE.out e (pathS_e1 he) w' hg⟩
  · intro p j hp hj v1 w1 hB1 hO1 hg1 hn1
    have P1 := Lib.hid hp
    have G1 := Lib.hid hg1
    have B1 := Lib.hid hB1
    have O1 := Lib.hid hO1
    have N1 := Lib.hid hn1
    have NE1 : Hid (v1.ownBlock ≠ some rb) := fun e => by have := (hO1.lt rb e).1; have := HWW.out; omega
    clear hp hj hB1 hO1 hg1 hn1
    go_wp2_with fail
    go_at_call 73
    refine PO.out 2 (kind - 1) 536870912 j (lastPt a p) w1 B1.out N1.out _ ?_ ?_
    · intro e he w' hg
      exact ⟨rfl, HE.out e (pathS_e2 P1.out he) w' (by_tr G1.out hg)⟩
    · intro q m hq hm v2 w2 hB2 hO2 hg2 hn2
      have P2 := Lib.hid (pathS_o2 P1.out hq)
      have G2 := Lib.hid (by_tr G1.out hg2)
      have B2 := Lib.hid hB2
      have O2 := Lib.hid hO2
      have N2 := Lib.hid hn2
      have O12 := Lib.hid (O1.out.kept hg2 (.inr NE1.out))
      have HM := Lib.hid hm
      have LL : Hid (p.length + q.length ≤ 2000) := by
        show _ ≤ _
        have := cmdS_lenL P1.out
        have := cmdS_lenL hq
        have := HL.out
        omega
      clear hq hm hB2 hO2 hg2 hn2
      by_cases h3 : kind = 3
      · have t1 : (kind == 3) = true := by rw [beq_iff_eq]; exact h3
        have P3 : Hid (pathS kind a (l.drop i) = match l.drop m with | [] => .error 2 | c :: l => if c = 15 then .ok (p ++ q, l) else .error 3) := by
          have := P2.out
          unfold endS at this
          rw [if_pos h3] at this
          exact this
        clear h3
        go_wp2_with (at_builtin; refine wpList_app rfl _ _ rfl el_pt O12.out rfl (Rd.own O2.out) rfl (Pts_one _) (by have := LL.out; omega) G2.out.size ?_; intro v3 w3 hown3 hgr3 hb3)
        have O3 := Lib.hid (own_eq hown3 (List.length_append).symm (Pts_app _ _).symm)
        have B3 := Lib.hid ((B2.out : BoxH w0 rb _ _ w2).by_ hgr3 (fun k hk => by have := own_ge O12.out k hk; have := (HB.out : BoxH w0 rb _ _ w).grow.size; omega) (fun e => NE1.out e.symm))
        have B3' : Hid (RdrB w0 rb lv m (lastPt a (p ++ q)) w3) := by rw [← lastPt_app]; exact B3.out
        have N3 : Hid (Near (lastPt a (p ++ q))) := by rw [← lastPt_app]; exact N2.out
        have G3 := Lib.hid (by_app G2.out hgr3 (own_ge O12.out))
        have NE3 : Hid (v3.ownBlock ≠ some rb) := fun e => by have := (O3.out.lt rb e).1; have := HWW.out; omega
        clear hown3 hgr3 hb3 B3
        generalize p ++ q = pq at *
        go_at_call 77
        refine CL.out m _ w3 B3'.out _ ?_ ?_ ?_
        · intro h w' hg
          exact ⟨rfl, HE.out 2 (by rw [P3.out, List.drop_eq_nil_of_le h]) _ (by_tr G3.out hg)⟩
        · intro h hx w' hg
          exact ⟨rfl, HE.out 3 (by rw [P3.out, List.drop_eq_getElem_cons h]; dsimp only; rw [if_neg hx]) _ (by_tr G3.out hg)⟩
        · intro h hx w4 hB4 hg4
          have P4 : Hid (pathS kind a (l.drop i) = .ok (pq, l.drop (m + 1))) := by
            show _ = _
            rw [P3.out, List.drop_eq_getElem_cons h]; dsimp only; rw [if_pos hx]
          have B4 := Lib.hid hB4
          have H4 := Lib.hid h
          have G4 := Lib.hid (by_tr G3.out hg4)
          have O4 := Lib.hid (O3.out.kept hg4 (.inr NE3.out))
          clear hB4 hg4 h hx
          go_wp2
          exact HR.out pq (m + 1) P4.out (H4.out) _ _ B4.out O4.out G4.out N3.out
      · have t1 : (kind == 3) = false := by rw [beq_eq_false_iff_ne]; exact h3
        have P3 : Hid (pathS kind a (l.drop i) = .ok (p ++ q, l.drop m)) := by
          have := P2.out
          unfold endS at this
          rw [if_neg h3] at this
          exact this
        clear h3
        go_wp2_with (at_builtin; refine wpList_app rfl _ _ rfl el_pt O12.out rfl (Rd.own O2.out) rfl (Pts_one _) (by have := LL.out; omega) G2.out.size ?_; intro v3 w3 hown3 hgr3 hb3)
        have O3 := Lib.hid (own_eq hown3 (List.length_append).symm (Pts_app _ _).symm)
        have B3 := Lib.hid ((B2.out : BoxH w0 rb _ _ w2).by_ hgr3 (fun k hk => by have := own_ge O12.out k hk; have := (HB.out : BoxH w0 rb _ _ w).grow.size; omega) (fun e => NE1.out e.symm))
        have B3' : Hid (RdrB w0 rb lv m (lastPt a (p ++ q)) w3) := by rw [← lastPt_app]; exact B3.out
        have N3 : Hid (Near (lastPt a (p ++ q))) := by rw [← lastPt_app]; exact N2.out
        have G3 := Lib.hid (by_app G2.out hgr3 (own_ge O12.out))
        have NE3 : Hid (v3.ownBlock ≠ some rb) := fun e => by have := (O3.out.lt rb e).1; have := HWW.out; omega
        clear hown3 hgr3 hb3 B3
        generalize p ++ q = pq at *
        exact HR.out pq m P3.out HM.out _ _ B3'.out O3.out G3.out N3.out
end Go.Proofs.YtjalimkajcjapaaDoor

namespace Go.Proofs.YtjalimkajcjapaaDoor
open Go
variable {P : Program} {Q : Exit → Act → List Frame → World → Prop} {a : Act} {cs cs' : List Frame} {w : World}

def recOf (cs : List Frame) : Value × List Frame := match recoverD cs with
  | some (v, cs') => (v, cs')
  | none => (.nilIface, cs)

theorem wpS_recover {id : Nat} {o : Oper} {l : List Oper} {y : Code} {v : Value} (hg : o.guard = none) (hr : (execOp a.eval o).run P w = .ok .recover w) (hv : recOf cs = (v, cs'))
    (h : wpList P (o :: l).toArray (Exit.then (fun a w => y.wpS P Q a cs' w) (fun e a w => Q e a cs' w)) l (a.put o.dst v) w) : (Code.seq (.region id (o :: l).toArray false) y).wpS P Q a cs w := by
  apply wpS_seq
  intro b k hb hro
  have hlen : (o :: l).toArray.size = l.length + 1 := by simp
  have h2 : wpOps P (o :: l).toArray (Exit.then (fun a w => y.wpS P Q a cs' w) (fun e a w => Q e a cs' w)) (List.range' 1 l.length) (a.put o.dst v) w := by
    rw [wpOps_eq_wpList l 1 (by intro j; simp [Nat.add_comm 1 j])]
    exact h
  obtain ⟨e, a', w', hq, harr⟩ := wp_ops _ _ _ h2 b k cs'
  refine ⟨e, a', cs', w', ?_, ?_⟩
  · cases e <;> exact hq
  · refine .of_steps (.head step_region (.one (m₁ := lone (b.at (a.put o.dst v) (.inRegion (o :: l).toArray (List.range' 1 l.length) :: k)) cs' w) ?_)) harr
    rw [hlen, List.range_eq_range', List.range'_succ]
    have ho : (o :: l).toArray[0]? = some o := by simp
    have hw : Region.wanted o (yielded (o :: l).toArray a.tmps) = true := by simp [Region.wanted, hg]
    have hgo := stepG_op (P := P) (b := b) (a := a) (k := k) (cs := cs) (w := w) (rest := List.range' (0 + 1) l.length) ho hw
    have hfin : ∀ v, (b.at a (.inRegion (o :: l).toArray (0 :: List.range' (0 + 1) l.length) :: k)).finish v = b.at (a.put o.dst v) (.inRegion (o :: l).toArray (List.range' (0 + 1) l.length) :: k) := by
      intro v; rw [Frame.finish_at, ho]; rfl
    have hk : (b.at a (.inRegion (o :: l).toArray (0 :: List.range' (0 + 1) l.length) :: k)).kind = .deferred := hb
    have htr := tryRecover_deferred hk cs
    unfold recOf at hv
    split at hv
    · rename_i v' cs1 hrec
      injection hv with e1 e2
      subst e1 e2
      refine step_lone_go ?_
      rw [hgo, ← hfin]
      simp only [Frame.at] at htr ⊢
      simp [stepG.apply, hr, htr, hrec]
    · rename_i hrec
      injection hv with e1 e2
      subst e1 e2
      refine step_lone_go ?_
      rw [hgo, ← hfin]
      simp only [Frame.at] at htr ⊢
      simp [stepG.apply, hr, htr, hrec]
end Go.Proofs.YtjalimkajcjapaaDoor

namespace Go.Proofs.YtjalimkajcjapaaDoor
open Go.RowKit B

set_option maxRecDepth 100000 in
set_option maxHeartbeats 1000000 in
theorem known_any (n : Int) (w : World) {R : Ending → World → Prop} (hR : R (.returned (.bool (decide (1 ≤ n) && decide (n ≤ 3)))) w) :
    Calls Tryd.prog 62 #[.int .i64 n] w R := by
  have HR := Lib.hid hR
  clear hR
  go_enter Tryd.func62, Tryd.ntmps62
  by_cases h1 : 1 ≤ n
  · by_cases h2 : n ≤ 3
    · have HR2 : Hid (R (.returned (.bool true)) w) := by have := HR.out; simp only [decide_eq_true h1, decide_eq_true h2] at this; exact this
      go_wp2
      simpa [h1, h2] using HR2.out
    · have HR2 : Hid (R (.returned (.bool false)) w) := by have := HR.out; simp only [decide_eq_true h1, decide_eq_false h2] at this; exact this
      go_wp2
      simpa [h1, h2] using HR2.out
  · have HR2 : Hid (R (.returned (.bool false)) w) := by have := HR.out; simp only [decide_eq_false h1] at this; exact this
    go_wp2
    simpa [h1] using HR2.out

theorem stop_nil (W : World) : (Instr.typeAssert .nilIface 20 139 true).run Tryd.prog W = .ok (.tuple #[.agg #[.int .i64 0], .bool false]) W := by kernel_rfl
theorem stop_is (W : World) (v : Value) : (Instr.typeAssert (.iface 139 v) 20 139 true).run Tryd.prog W = .ok (.tuple #[v, .bool true]) W := by kernel_rfl
set_option maxRecDepth 100000 in
set_option maxHeartbeats 2000000 in
theorem catch_idle (p q : Addr) (w : World) :
    CallsD Tryd.prog 72 #[.pointer (some p), .pointer (some q)] .returning w fun e u' w' => e = .returned (.tuple #[]) ∧ u' = .returning ∧ Grow w w' := by
  have hs := stop_nil
  refine callsD_of_wpS Tryd.func72 rfl fun c₀ cs hu => ?_
  simp only [Tryd.ntmps72, List.size_toArray, List.length_cons, List.length_nil, Nat.reduceAdd, Nat.reduceSub, Array.replicate_succ, Array.replicate_zero, List.push_toArray, List.append_toArray, List.nil_append, List.cons_append]
  refine wpS_recover (v := .nilIface) (cs' := c₀ :: cs) rfl rfl (by simp [recOf, recoverD, hu]) ?_
  go_wp2
  refine wpS_of_wp ?_
  go_wp2
  exact ⟨rfl, c₀.mode, by cases c₀; rfl, .tuple #[], results_none rfl _ _ _, rfl, hu, (Grow.refl w).al _⟩

theorem c0 {a b : World} {pb : Nat} {v : Value} {t : TypeId} (h : BoxH a pb #[v] t b) : b.cell? ⟨pb, 0, none⟩ = some v := h.cell 0
set_option maxRecDepth 100000 in
set_option maxHeartbeats 4000000 in
theorem catch_stop (pb qb : Nat) (lv ev : Value) (e0 : Int) (w0 w : World) (hp : BoxH w0 pb #[lv] 38 w) (hq : BoxH w0 qb #[ev] 26 w) (hne : pb ≠ qb) :
    CallsD Tryd.prog 72 #[.pointer (some ⟨pb, 0, none⟩), .pointer (some ⟨qb, 0, none⟩)] (.panicking (stopE e0)) w fun e u' w' => e = .returned (.tuple #[]) ∧ u' = .panicking [{ v := .iface 139 (.agg #[.int .i64 e0]), recovered := true }] ∧ BoxH w0 pb #[.slice none 0 0] 38 w' ∧ BoxH w0 qb #[.int .i64 e0] 26 w' := by
  have hs := stop_is
  refine callsD_of_wpS Tryd.func72 rfl fun c₀ cs hu => ?_
  simp only [Tryd.ntmps72, List.size_toArray, List.length_cons, List.length_nil, Nat.reduceAdd, Nat.reduceSub, Array.replicate_succ, Array.replicate_zero, List.push_toArray, List.append_toArray, List.nil_append, List.cons_append]
  refine wpS_recover (v := .iface 139 (.agg #[.int .i64 e0])) (cs' := { c₀ with mode := .panicking [{ v := .iface 139 (.agg #[.int .i64 e0]), recovered := true }] } :: cs) rfl rfl (by simp [recOf, recoverD, hu, stopE]) ?_
  have HP := Lib.hid (hp.tr ((Grow.refl w).al (.cells #[.int .i64 e0] 139)))
  have HQ := Lib.hid (hq.tr ((Grow.refl w).al (.cells #[.int .i64 e0] 139)))
  go_wp2
  refine wpS_of_wp ?_
  have hlp := hp.lt
  have hlq := hq.lt
  have GP := Lib.hid hp.2.1
  have GQ := Lib.hid hq.2.1
  clear hp hq
  have p0 := HP.out.cell 0
  have p1 := HP.out.free 0
  have q0 := HQ.out.cell 0
  have q1 := HQ.out.free 0
  have s0 := (BoxH.laid #[.int .i64 e0] 139 (Grow.refl w)).cell 0
  have n1 : pb ≠ w.heap.size := by omega
  have n2 : qb ≠ w.heap.size := by omega
  have n3 : w.heap.size ≠ pb := by omega
  have n4 : w.heap.size ≠ qb := by omega
  have n5 : qb ≠ pb := by omega
  clear hlp hlq
  have X := HP.out.grow
  generalize w.alloc (.cells #[.int .i64 e0] 139) = wa at *
  generalize w.heap.size = sb at *
  go_wp2_with fail
  have B1 := HP.out.set 0 (.slice none 0 0)
  have B2 := HQ.out.other (j := 0) (v := .slice none 0 0) n5 GP.out
  have B3 := Lib.hid ((B1.other (j := 0) (v := .int .i64 e0) hne GQ.out).tr (Grow.refl _).dr)
  have B4 := Lib.hid ((B2.set 0 (.int .i64 e0)).tr (Grow.refl _).dr)
  clear B1 B2
  go_region
  go_wp2
  exact ⟨rfl, .panicking [{ v := .iface 139 (.agg #[.int .i64 e0]), recovered := true }], rfl, .tuple #[], results_none rfl _ _ _, rfl, rfl, B3.out, B4.out⟩
end Go.Proofs.YtjalimkajcjapaaDoor

namespace Go.Proofs.YtjalimkajcjapaaDoor.B
open Go.RowKit

section
variable {P : Program} {ops : Array Oper} {Q : Exit → Act → World → Prop}

theorem lexTD_held {n g : Nat} {Lq : Act → World → Prop} (hsel : Region.noSelect ops = true) (hs : Region.sinkB .any ops n = true) (hc : Region.chainB .any ops n = true) (hn : n < ops.size)
    (hQ : ∀ (i : Nat) (o : Oper), ops[i]? = some o → ∀ (c : List PanicEntry) (a : Act) (v : Value) (w : World), Q (.panic c) (a.put o.dst v) w → Q (.panic c) a w) :
    ∀ (ord : List Nat) (G : World → Prop) (listed : Array Bool) (a : Act) (w : World), lexOkT ops n g ord listed = true → HeadInv .any ops n listed → G w → LexT P ops Q Lq ord G a w →
      wpHL P ops Q n (fun listed' a' w' => Region.seqB .any ops g n listed' = true ∧ Lq a' w') G ord.length listed a w
  | [], G, listed, a, w, hok, _, _, h => ⟨hok, h⟩
  | i :: rest, G, listed, a, w, hok, inv, hG, h => by
    obtain ⟨o, ho, hcs⟩ := h
    simp only [lexOkT, ho, Bool.and_eq_true, decide_eq_true_eq] at hok
    obtain ⟨⟨hin, h1⟩, h2⟩ := hok
    rcases hcs with ⟨v, hy, hk⟩ | ⟨ht, hw⟩
    · split at h1
      · have hr : Region.ready .any ops listed = [i] := by simpa using h1
        have hir : i ∈ Region.ready .any ops listed := by rw [hr]; simp
        have ih := lexTD_held (Lq := Lq) hsel hs hc hn hQ rest G _ _ w h2 (inv.set hir hin) hG hk
        refine ⟨by rw [hr]; simp, fun j hj => ?_⟩
        rw [hr] at hj
        obtain rfl : j = i := by simpa using hj
        exact ⟨hin, hy.wpOp ho hG ⟨hG, ih⟩⟩
      · simp only [Bool.and_eq_true] at h1
        have hir : i ∈ Region.ready .any ops listed := by simpa using h1.2
        have ih := lexTD_held (Lq := Lq) hsel hs hc hn hQ rest G _ _ w h2 (inv.set hir hin) hG hk
        exact wpHL_first ho (Region.noSelect_spec hsel) hs hc hn hin (fun listed' a' w' hL => seqB_ready hL.1) (fun c a w => hQ i o ho c a v w) _ _ a w inv (Region.free_spec ho h1.1) hir hy hG ih
    · rw [if_pos ht] at h1
      have hr : Region.ready .any ops listed = [i] := by simpa using h1
      have hir : i ∈ Region.ready .any ops listed := by rw [hr]; simp
      refine ⟨by rw [hr]; simp, fun j hj => ?_⟩
      rw [hr] at hj
      obtain rfl : j = i := by simpa using hj
      refine ⟨hin, wpOp_mono (fun a' w' h' => ?_) hw⟩
      obtain ⟨G', hGG, hG', hl⟩ := h'
      exact ⟨hGG _ hG', wpHL_mono hGG _ _ _ _ (lexTD_held hsel hs hc hn hQ rest G' _ a' w' h2 (inv.set hir hin) hG' hl)⟩

theorem wp_region_lexTD {id : Nat} {a : Act} {w : World} {l : List Oper} (G : World → Prop) (h0 : G w.drew) (n : Nat) (ord : List Nat) (ok : Option Tmp → Bool) (hm : P.follows .mixedOrders = true) (hB : lexTB l.toArray n ord = true)
    (hok : l.all (fun o => ok o.dst) = true)
    (hQ : ∀ (c : List PanicEntry) (a : Act) (d : Option Tmp) (v : Value) (w : World), ok d = true → Q (.panic c) (a.put d v) w → Q (.panic c) a w)
    (h : LexT P l.toArray Q (fun a' w' => wpList P l.toArray Q (l.drop n) a' w') ord G a w.drew) : (Code.region id l.toArray true).wp P Q a w := by
  simp only [lexTB, Bool.and_eq_true, decide_eq_true_eq] at hB
  obtain ⟨⟨⟨⟨⟨hsel, hn⟩, hs⟩, hc⟩, hol⟩, hlex⟩ := hB
  have inv0 : HeadInv .any l.toArray n (Array.replicate l.toArray.size false) :=
    ⟨by simp, fun j oj _ hl => (by rw [getD_replicate_false] at hl; cases hl), fun t _ ht => getD_in (by simpa using ht) (getD_replicate_false _ _)⟩
  have hQ' : ∀ (i : Nat) (o : Oper), l.toArray[i]? = some o → ∀ (c : List PanicEntry) (a : Act) (v : Value) (w : World), Q (.panic c) (a.put o.dst v) w → Q (.panic c) a w := fun i o ho c a v w hh => by
    refine hQ c a o.dst v w ?_ hh
    rw [List.getElem?_toArray] at ho
    exact List.all_eq_true.1 hok o (List.mem_of_getElem? ho)
  have H := lexTD_held hsel hs hc hn hQ' ord G _ a w.drew hlex inv0 h0 h
  refine wp_region_any hm ?_
  have hdl : (l.drop n).length = l.toArray.size - n := by simp
  have := wpAny_of_HL (P := P) (Q := Q) (g := l.toArray.size - n) (fun listed a' w' hL => by
    have := wpAny_of_seq (P := P) (md := .any) (Q' := Q) (l.drop n) n listed a' w' (fun j => by simp [List.getElem?_drop]) (by rw [hdl]; exact hL.1) hL.2
    rwa [hdl] at this) _ _ _ _ H
  rw [hol, show n + (l.toArray.size - n) = l.toArray.size by omega] at this
  exact this
end

theorem leaves_same {P : Program} {fn : Func} {t1 t2 : Array Value} {R : Ending → World → Prop} (h : results fn t1 = results fn t2) : ∀ (ds : List Deferred) (u : FrameMode) (w : World), Leaves P fn t1 R ds u w = Leaves P fn t2 R ds u w
  | [], .returning, w => by simp only [Leaves, h]
  | [], .panicking _, w => rfl
  | [], .run, w => rfl
  | d :: ds, u, w => by
    have e : ∀ u w, Leaves P fn t1 R ds u w = Leaves P fn t2 R ds u w := leaves_same h ds
    simp only [Leaves, e]
end Go.Proofs.YtjalimkajcjapaaDoor.B

namespace Go.Proofs.YtjalimkajcjapaaDoor
open Go.RowKit B

theorem el_prow : Elem Tryd.prog 38 78 (.slice none 0 0) 1 24 := ⟨by kernel_rfl, by kernel_rfl, rfl, by decide, by decide⟩
def preR (ps : List (List Pt)) : Except Int (List (List Pt)) → Except Int (List (List Pt))
  | .error e => .error e
  | .ok qs => .ok (ps ++ qs)
theorem preR_app (ps qs : List (List Pt)) (r : Except Int (List (List Pt))) : preR ps (preR qs r) = preR (ps ++ qs) r := by
  cases r with
  | error e => rfl
  | ok v => simp [preR]
theorem decG_err {f : Nat} {kind : Int} {a : Pt} {l : List Int} {e : Int} (h : pathS kind a l = .error e) : decG (f + 1) kind a l = .error e := by simp only [decG]; rw [h]
theorem decG_more {f : Nat} {kind : Int} {a : Pt} {l r : List Int} {j : Nat} {p : List Pt} (h : pathS kind a l = .ok (p, r.drop j)) (hj : j < r.length) : decG (f + 1) kind a l = preR [p] (decG f kind (lastPt a p) (r.drop j)) := by
  simp only [decG]
  rw [h, List.drop_eq_getElem_cons hj]
  dsimp only
  cases decG f kind (lastPt a p) (r[j] :: r.drop (j + 1)) with
  | error e => rfl
  | ok v => rfl
theorem decG_last {f : Nat} {kind : Int} {a : Pt} {l r : List Int} {j : Nat} {p : List Pt} (h : pathS kind a l = .ok (p, r.drop j)) (hj : r.length ≤ j) : decG (f + 1) kind a l = .ok [p] := by
  simp only [decG]
  rw [h, List.drop_eq_nil_of_le hj]

theorem hmf : ∀ (fn : Fn) (first cap : Array Value) (w : World), (Instr.makeFunc fn first cap).run Tryd.prog w = .ok (.func fn first cap) w := fun _ _ _ _ => rfl

/-- what Decode hands back -/
def DecH (kind : Int) (l : List Int) (w : World) (R : Ending → World → Prop) : Prop :=
  (∀ e, decS kind l = .error e → ∀ w', Grow w w' → R (.returned (.tuple #[.slice none 0 0, .int .i64 e])) w') ∧
  (∀ (rows : List PRow), decS kind l = .ok (rows.map PRow.l) → ∀ v w', w'.ownsRow w.heap.size 78 1 v rows.length (rows.map PRow.v) → (∀ r ∈ rows, r.rd w' (fun b => w.heap.size ≤ b)) → Grow w w' → R (.returned (.tuple #[v, .int .i64 0])) w')

set_option maxRecDepth 100000 in
set_option maxHeartbeats 400000 in
theorem res35 (pb qb : Nat) (v e : Value) (W : World) (tmps : Array Value) (h4 : tmps.getD 4 undef = .pointer (some ⟨pb, 0, none⟩)) (h5 : tmps.getD 5 undef = .pointer (some ⟨qb, 0, none⟩))
    (hv : W.cell? ⟨pb, 0, none⟩ = some v) (he : W.cell? ⟨qb, 0, none⟩ = some e) : (results Tryd.f70 tmps).run Tryd.prog W = .ok (.tuple #[v, e]) W := by
  have h4' : tmps[4]?.getD undef = .pointer (some ⟨pb, 0, none⟩) := by simpa using h4
  have h5' : tmps[5]?.getD undef = .pointer (some ⟨qb, 0, none⟩) := by simpa using h5
  simp [results, Tryd.results70, go_sem, h4', h5', hv, he]
def off35 (d : Option Tmp) : Bool := d != some 4 && d != some 5
set_option maxRecDepth 100000 in
set_option maxHeartbeats 400000 in
theorem put35 {R : Ending → World → Prop} (c : List PanicEntry) (a : Act) (d : Option Tmp) (v : Value) (w : World) (hd : off35 d = true) (h : bodyPostD Tryd.prog Tryd.f70 R (.panic c) (a.put d v) w) : bodyPostD Tryd.prog Tryd.f70 R (.panic c) a w := by
  cases d with
  | none => exact h
  | some d =>
    have e : results Tryd.f70 (a.tmps.setIfInBounds d v) = results Tryd.f70 a.tmps := by
      have h4 : d ≠ 4 := fun e => by rw [e] at hd; cases hd
      have h5 : d ≠ 5 := fun e => by rw [e] at hd; cases hd
      have e4 : (a.tmps.setIfInBounds d v)[4]? = a.tmps[4]? := Array.getElem?_setIfInBounds_ne h4
      have e5 : (a.tmps.setIfInBounds d v)[5]? = a.tmps[5]? := Array.getElem?_setIfInBounds_ne h5
      simp [results, Tryd.results70, e4, e5]
    have h1 : Leaves Tryd.prog Tryd.f70 (a.tmps.setIfInBounds d v) R a.defers (.panicking c) w := h
    show Leaves _ _ _ _ _ _ _
    rw [← leaves_same e]
    exact h1
set_option maxRecDepth 100000 in
set_option maxHeartbeats 1000000 in
theorem door_stop {tmps : Array Value} {R : Ending → World → Prop} (pb qb : Nat) (v ev : Value) (e0 : Int) (w0 w : World) (hp : BoxH w0 pb #[v] 38 w) (hq : BoxH w0 qb #[ev] 26 w) (hne : pb ≠ qb)
    (h4 : tmps.getD 4 undef = .pointer (some ⟨pb, 0, none⟩)) (h5 : tmps.getD 5 undef = .pointer (some ⟨qb, 0, none⟩)) (hR : ∀ w', Grow w0 w' → R (.returned (.tuple #[.slice none 0 0, .int .i64 e0])) w') :
    bodyPostD Tryd.prog Tryd.f70 R (.panic (stopE e0)) { tmps := tmps, defers := [{ target := .fn (.func 72) #[.pointer (some ⟨pb, 0, none⟩), .pointer (some ⟨qb, 0, none⟩)], args := #[] }] } w := by
  show Leaves _ _ _ _ _ _ _
  refine leaves_cons (f := 72) (args := #[.pointer (some ⟨pb, 0, none⟩), .pointer (some ⟨qb, 0, none⟩)]) (by simp) (by simp [go_sem]) ?_
  refine (catch_stop pb qb v ev e0 w0 w hp hq hne).mono ?_
  rintro e u' w'' ⟨rfl, rfl, hP, hQ⟩
  exact ⟨_, res35 pb qb _ _ _ _ h4 h5 (hP.cell 0) (hQ.cell 0), hR _ hP.grow⟩
theorem door_ret {tmps : Array Value} {R : Ending → World → Prop} (pb qb : Nat) (v ev : Value) (w0 w : World) (hp : BoxH w0 pb #[v] 38 w) (hq : BoxH w0 qb #[ev] 26 w)
    (h4 : tmps.getD 4 undef = .pointer (some ⟨pb, 0, none⟩)) (h5 : tmps.getD 5 undef = .pointer (some ⟨qb, 0, none⟩)) (hR : ∀ w', Grow w w' → R (.returned (.tuple #[v, ev])) w') :
    bodyPostD Tryd.prog Tryd.f70 R .ret { tmps := tmps, defers := [{ target := .fn (.func 72) #[.pointer (some ⟨pb, 0, none⟩), .pointer (some ⟨qb, 0, none⟩)], args := #[] }] } w := by
  show Leaves _ _ _ _ _ _ _
  refine leaves_cons (f := 72) (args := #[.pointer (some ⟨pb, 0, none⟩), .pointer (some ⟨qb, 0, none⟩)]) (by simp) (by simp [go_sem]) ?_
  refine (catch_idle ⟨pb, 0, none⟩ ⟨qb, 0, none⟩ w).mono ?_
  rintro e u' w'' ⟨rfl, rfl, hg⟩
  exact ⟨_, res35 pb qb _ _ _ _ h4 h5 ((hp.tr hg).cell 0) ((hq.tr hg).cell 0), hR _ hg⟩
theorem Rd.put {w : World} {S : Nat → Prop} {size n bb j : Nat} {v u : Value} {xs : List Value} (h : Rd w S size v n xs) (h0 : 0 < size) (hS : ∀ b, S b → b ≠ bb) : Rd (w.setCell ⟨bb, j, none⟩ u) S size v n xs :=
  h.by_ h0 (by_set (Grow.refl w) bb j u) (fun b hb e => hS b hb (by injection e))
/-- above rb, and not in v's block -/
def Fr (rb : Nat) (v : Value) : Nat → Prop := fun b => rb < b ∧ some b ≠ v.ownBlock
theorem Fr.one {w w' : World} {rb : Nat} {v v' : Value} {r : PRow} (h : r.rd w (Fr rb v)) (hg : w.grownBy w' v.ownBlock) (hb : v'.ownBlock = v.ownBlock ∨ v'.ownBlock = some (w.heap.size + 1)) : r.rd w' (Fr rb v') := by
  have h1 := (Rd.and_lt h (by decide)).by_ (by decide) hg (fun b hb => hb.1.2)
  refine h1.into fun b hb1 => ⟨hb1.1.1, ?_⟩
  rcases hb with hb | hb
  · rw [hb]; exact hb1.1.2
  · rw [hb]
    intro e
    injection e with e
    omega
theorem Fr.app {w w' : World} {rb : Nat} {v v' : Value} {rows : List PRow} {r : PRow} (h : ∀ r ∈ rows, r.rd w (Fr rb v)) (hr : r.rd w (Fr rb v)) (hg : w.grownBy w' v.ownBlock) (hb : v'.ownBlock = v.ownBlock ∨ v'.ownBlock = some (w.heap.size + 1)) : ∀ q ∈ rows ++ [r], q.rd w' (Fr rb v') := by
  intro q hq
  rcases List.mem_append.1 hq with hq | hq
  · exact Fr.one (h q hq) hg hb
  · rw [List.mem_singleton.1 hq]; exact Fr.one hr hg hb
theorem Fr.put {w : World} {rb k j : Nat} {v u : Value} {r : PRow} (h : r.rd w (Fr rb v)) (hk : k ≤ rb) : r.rd (w.setCell ⟨k, j, none⟩ u) (Fr rb v) := Rd.put h (by decide) (fun b hb => by have := hb.1; omega)

theorem dec_fin {tmps : Array Value} {R : Ending → World → Prop} {kind : Int} {l : List Int} {pb qb rb : Nat} {rows : List PRow} {v : Value} {w W : World} (HR : DecH kind l w R) (hd : decS kind l = .ok (rows.map PRow.l))
    (hpb : w.heap.size ≤ pb) (hqb : pb < qb) (hrb : qb < rb) (BP : BoxH w pb #[v] 38 W) (BQ : BoxH w qb #[.int .i64 0] 26 W) (O : W.ownsRow w.heap.size 78 1 v rows.length (rows.map PRow.v))
    (NE : ∀ k, k ≤ rb → v.ownBlock ≠ some k) (RS : ∀ r ∈ rows, r.rd W (Fr rb v)) (h4 : tmps.getD 4 undef = .pointer (some ⟨pb, 0, none⟩)) (h5 : tmps.getD 5 undef = .pointer (some ⟨qb, 0, none⟩)) :
    bodyPostD Tryd.prog Tryd.f70 R .ret { tmps := tmps, defers := [{ target := .fn (.func 72) #[.pointer (some ⟨pb, 0, none⟩), .pointer (some ⟨qb, 0, none⟩)], args := #[] }] } ((W.setCell ⟨pb, 0, none⟩ v).setCell ⟨qb, 0, none⟩ (.int .i64 0)) := by
  have B1 : BoxH w pb #[v] 38 ((W.setCell ⟨pb, 0, none⟩ v).setCell ⟨qb, 0, none⟩ (.int .i64 0)) := (BP.set 0 v).other (by omega) (by omega)
  have B2 : BoxH w qb #[.int .i64 0] 26 ((W.setCell ⟨pb, 0, none⟩ v).setCell ⟨qb, 0, none⟩ (.int .i64 0)) := (BQ.other (j := 0) (v := v) (cc := pb) (by omega) (by omega)).set 0 (.int .i64 0)
  refine door_ret pb qb v (.int .i64 0) w _ B1 B2 h4 h5 ?_
  intro w' hg
  refine HR.2 rows hd v w' (own_grow (own_set (own_set O (NE pb (by omega))) (NE qb (by omega))) hg) ?_ (B1.grow.tr hg)
  intro r hr
  exact ((Fr.put (k := qb) (j := 0) (u := .int .i64 0) (Fr.put (k := pb) (j := 0) (u := v) (RS r hr) (by omega)) (by omega) : Rd _ _ _ _ _ _).gr2 (by decide) hg).into fun b hb => by have := hb.1; have := B1.grow.size; omega
set_option maxRecDepth 100000 in
set_option maxHeartbeats 4000000 in
theorem decode_bad (kind : Int) (l : List Int) (lv : Value) (w : World) (hk : ¬ (1 ≤ kind ∧ kind ≤ 3)) {R : Ending → World → Prop} (hR : DecH kind l w R) :
    Calls Tryd.prog 70 #[.int .i64 kind, lv] w R := by
  have HR := Lib.hid (hR.1 1 (by unfold decS; rw [if_pos (by omega)]))
  clear hR
  have t0 : (decide (1 ≤ kind) && decide (kind ≤ 3)) = false := by simp; omega
  have T0 := Lib.hid t0
  have hmf := hmf
  clear t0
  go_enter_defers Tryd.func70, Tryd.ntmps70
  go_wp2_with fail
  go_at_call 62
  refine known_any _ _ ?_
  rw [T0.out]
  go_wp2
  exact ⟨_, res35 w.heap.size (w.heap.size + 1) (.slice none 0 0) (.int .i64 1) _ _ rfl rfl (by simp) (by simp), HR.out _ (((Grow.refl w).al _).al _)⟩


set_option maxRecDepth 100000 in
set_option maxHeartbeats 4000000 in
theorem decode_one (l : List Int) (lv : Value) (S : Nat → Prop) (w : World) (hl : Rd w S 1 lv l.length (U32 l)) (hu : ∀ x ∈ l, 0 ≤ x ∧ x ≤ 4294967295) (hlen : l.length ≤ 1000) {R : Ending → World → Prop} (hR : DecH 1 l w R) :
    Calls Tryd.prog 70 #[.int .i64 1, lv] w R := by
  have hl := hl.lt (by decide)
  have HR := Lib.hid hR
  have hmf := hmf
  have HL := Lib.hid hl
  have HU := Lib.hid hu
  obtain ⟨_, A, c, rfl, h1, h2, h3, h4⟩ := hl
  unfold maxLen at h2
  clear hR h3 h4 hu
  have BP := Lib.hid (((BoxH.laid #[.slice none 0 0] 38 (Grow.refl w)).tr ((Grow.refl _).al (.cells #[.int .i64 0] 26))).tr ((Grow.refl _).al (.cells #[.slice A l.length c, .int .i64 0, .int .i64 0, .int .i64 0] 143)))
  have BQ : Hid (BoxH w (w.heap.size + 1) #[.int .i64 0] 26 (((w.alloc (.cells #[.slice none 0 0] 38)).alloc (.cells #[.int .i64 0] 26)).alloc (.cells #[.slice A l.length c, .int .i64 0, .int .i64 0, .int .i64 0] 143))) := by
    have := ((BoxH.laid (w := w.alloc (.cells #[.slice none 0 0] 38)) #[.int .i64 0] 26 ((Grow.refl w).al _)).tr ((Grow.refl _).al (.cells #[.slice A l.length c, .int .i64 0, .int .i64 0, .int .i64 0] 143)))
    rw [World.size_alloc] at this
    exact this
  have BR : Hid (RdrB w (w.heap.size + 2) (.slice A l.length c) 0 ⟨0, 0⟩ (((w.alloc (.cells #[.slice none 0 0] 38)).alloc (.cells #[.int .i64 0] 26)).alloc (.cells #[.slice A l.length c, .int .i64 0, .int .i64 0, .int .i64 0] 143))) := by
    have := (BoxH.laid (w := (w.alloc (.cells #[.slice none 0 0] 38)).alloc (.cells #[.int .i64 0] 26)) #[.slice A l.length c, .int .i64 0, .int .i64 0, .int .i64 0] 143 (((Grow.refl w).al _).al _))
    rw [World.size_alloc, World.size_alloc] at this
    exact this
  go_enter_defers Tryd.func70, Tryd.ntmps70
  go_wp2_with fail
  go_at_call 62
  refine known_any _ _ ?_
  go_wp2_with fail
  generalize ((w.alloc (.cells #[.slice none 0 0] 38)).alloc (.cells #[.int .i64 0] 26)).alloc (.cells #[.slice A l.length c, .int .i64 0, .int .i64 0, .int .i64 0] 143) = wa at *
  rw [show w.heap.size + 2 = w.heap.size + 1 + 1 from rfl] at BR
  have PO := Lib.hid fun k low high j b W (h : RdrB w (w.heap.size + 1 + 1) (.slice A l.length c) j b W) (hn : Near b) (R : Ending → World → Prop) hE hR => points_any k low high l (.slice A l.length c) (w.heap.size + 1 + 1) j b w W h HL.out HU.out hn hlen (R := R) hE hR
  have N0 : Hid (w.heap.size < w.heap.size + 1 ∧ w.heap.size + 1 < w.heap.size + 1 + 1) := ⟨by omega, by omega⟩
  generalize w.heap.size + 1 = qb at *
  generalize qb + 1 = rb at *
  refine wp_region_lexTD (fun W => BoxH w w.heap.size #[.slice none 0 0] 38 W) (BP.out.tr (Grow.refl _).dr) 4 [0, 1, 2, 3] (off35) (by kernel_rfl) (by kernel_rfl) (by kernel_rfl) (fun c a d v w hd h => put35 c a d v w hd h) ?_
  iterate 1 (apply lext_take; exact rfl; exact rfl; (intro W hW; have y := hW.cell 0; (try clear hW); go_simp; with_reducible rfl); try simp only [Act.put, List.setIfInBounds_toArray, List.set_cons_zero, List.set_cons_succ])
  iterate 1 (apply lext_take; exact rfl; exact rfl; (intro W hW; (try clear hW); go_simp; with_reducible rfl); try simp only [Act.put, List.setIfInBounds_toArray, List.set_cons_zero, List.set_cons_succ])
  apply lext_turn; exact rfl; exact rfl; exact rfl; intro K hK; go_simp; go_at_call 73; refine PO.out 1 1 536870912 0 ⟨0, 0⟩ _ (BR.out.tr (Grow.refl _).dr) ⟨⟨by decide, by decide⟩, by decide, by decide⟩ _ ?_ ?_
  · intro e he w' hg'
    refine door_stop w.heap.size qb (.slice none 0 0) (.int .i64 0) e w w' ?_ ?_ ?_ rfl rfl ?_
    · exact (BP.out.tr (Grow.refl _).dr).by_ hg' (fun k hk => by injection hk with hk; have := N0.out; omega) (fun e => by injection e with e; have := N0.out; omega)
    · exact (BQ.out.tr (Grow.refl _).dr).by_ hg' (fun k hk => by injection hk with hk; have := N0.out; omega) (fun e => by injection e with e; have := N0.out; omega)
    · have := N0.out; omega
    · intro w3 hg3
      refine HR.out.1 e ?_ w3 hg3
      unfold decS
      rw [if_neg (by omega), if_pos rfl]
      unfold dec1
      rw [List.drop_zero] at he
      rw [show cmdS 1 1 536870912 ⟨0, 0⟩ l = .error e from he]
  · intro ps j hps hj v1 w1 hB1 hO1 hg1 hn1
    have B1 := Lib.hid hB1
    have O1 := Lib.hid hO1
    have J := Lib.hid hj
    have PS := Lib.hid hps
    have BP1 := Lib.hid ((BP.out.tr (Grow.refl _).dr).by_ hg1 (fun k hk => by injection hk with hk; have := N0.out; omega) (fun e => by injection e with e; have := N0.out; omega))
    have BQ1 := Lib.hid ((BQ.out.tr (Grow.refl _).dr).by_ hg1 (fun k hk => by injection hk with hk; have := N0.out; omega) (fun e => by injection e with e; have := N0.out; omega))
    obtain ⟨X1, cc1, hv1⟩ := own_slice hO1
    subst hv1
    refine hK.out _ _ BP1.out ?_
    have WA : Hid (rb < wa.drew.heap.size) := (BR.out : BoxH w rb _ _ wa).lt
    clear hK hB1 hO1 hg1 hn1 hj hps BP BQ BR PO
    try simp only [Act.put, List.setIfInBounds_toArray, List.set_cons_zero, List.set_cons_succ]
    apply lext_turn; exact rfl; exact rfl; exact rfl; intro K hK; go_simp; refine hK.out _ _ (BP1.out.tr ((Grow.refl _).al _)) ?_; clear hK; try simp only [Act.put, List.setIfInBounds_toArray, List.set_cons_zero, List.set_cons_succ]
    refine lext_nil ?_
    simp only [List.drop_succ_cons, List.drop_zero]
    have LJ := Lib.hid (cmdS_lenL PS.out)
    have SZ : Hid (rb < w1.heap.size) := (B1.out : BoxH w rb _ _ w1).lt
    have R1 : Hid (PRow.rd w1 (Fr rb (.slice none 0 0)) ⟨.slice X1 ps.length cc1, ps⟩) := (Rd.own_from O1.out).into fun b hb => ⟨by have := WA.out; omega, by intro e; cases e⟩
    by_cases hjl : j < l.length
    · have t1 : decide (j < l.length) = true := decide_eq_true hjl
      have HD : Hid (decS 1 l = .error 3) := by
        show _ = _
        unfold decS
        rw [if_neg (by omega), if_pos rfl]
        unfold dec1
        rw [show cmdS 1 1 536870912 ⟨0, 0⟩ l = .ok (ps, l.drop j) from PS.out, List.drop_eq_getElem_cons hjl]
      clear hjl
      go_wp2_with (at_builtin; refine wpList_new (w0 := w) rfl _ _ rfl el_prow (World.ownsRow_nil w1 w.heap.size 78 1) rfl 1 _ rfl (by decide) rfl (by simp [Value.oneCell']) (by decide) BP1.out.grow ⟨Nat.le_refl _, BP1.out.grow.size⟩ ?_; intro v4 w4 hown4 hg4 hgr4 hb4; obtain ⟨X4, cc4, hv4⟩ := own_slice hown4; subst hv4; have O4 := Lib.hid hown4; have R4 := Lib.hid (Fr.app (rows := []) (fun r hr => by cases hr) R1.out hgr4 hb4); have BP4 := Lib.hid (BP1.out.by_ hgr4 (fun k hk => by cases hk) (fun e => by cases e)); have BQ4 := Lib.hid (BQ1.out.by_ hgr4 (fun k hk => by cases hk) (fun e => by cases e)); have BR4 := Lib.hid ((B1.out : BoxH w rb _ _ w1).by_ hgr4 (fun k hk => by cases hk) (fun e => by cases e)); have NE4 : Hid (∀ k, k ≤ rb → (Value.slice X4 (0 + 1) cc4).ownBlock ≠ some k) := (fun k hk e => by rcases hb4 with h | h <;> rw [h] at e <;> cases e; have := SZ.out; omega); have p4 := BP4.out.cell 0; have f4 := BP4.out.free 0; have BP5 := Lib.hid (BP4.out.set 0 (.slice X4 (0 + 1) cc4)); have BQ5 := Lib.hid (BQ4.out.other (j := 0) (v := .slice X4 (0 + 1) cc4) (cc := w.heap.size) (by have := N0.out; omega) (Nat.le_refl _)); have BR5 := Lib.hid (BR4.out.other (j := 0) (v := .slice X4 (0 + 1) cc4) (cc := w.heap.size) (by have := N0.out; omega) (Nat.le_refl _)); have r5 := BR5.out.cell 1; have p5 := BP5.out.cell 0; have fp5 := BP5.out.free 0; have q5 := BQ5.out.cell 0; have fq5 := BQ5.out.free 0; have n1 : qb ≠ w.heap.size := (by have := N0.out; omega); have n2 : w.heap.size ≠ qb := (by have := N0.out; omega); clear hown4 hg4 hgr4 hb4)
      refine door_ret w.heap.size qb (.slice none 0 0) (.int .i64 3) w _ ((BP5.out.set 0 (.slice none 0 0)).other (j := 0) (v := .int .i64 3) (cc := qb) n2 (by have := N0.out; omega)) ((BQ5.out.other (j := 0) (v := .slice none 0 0) (cc := w.heap.size) n1 (Nat.le_refl _)).set 0 (.int .i64 3)) rfl rfl ?_
      intro w' hg'
      exact HR.out.1 3 HD.out w' (((BP5.out.set 0 (.slice none 0 0)).other (j := 0) (v := .int .i64 3) (cc := qb) n2 (by have := N0.out; omega)).grow.tr hg')
    · have t1 : decide (j < l.length) = false := decide_eq_false hjl
      have HD : Hid (decS 1 l = .ok [ps]) := by
        show _ = _
        unfold decS
        rw [if_neg (by omega), if_pos rfl]
        unfold dec1
        rw [show cmdS 1 1 536870912 ⟨0, 0⟩ l = .ok (ps, l.drop j) from PS.out, List.drop_eq_nil_of_le (by omega)]
      clear hjl
      go_wp2_with (at_builtin; refine wpList_new (w0 := w) rfl _ _ rfl el_prow (World.ownsRow_nil w1 w.heap.size 78 1) rfl 1 _ rfl (by decide) rfl (by simp [Value.oneCell']) (by decide) BP1.out.grow ⟨Nat.le_refl _, BP1.out.grow.size⟩ ?_; intro v4 w4 hown4 hg4 hgr4 hb4; obtain ⟨X4, cc4, hv4⟩ := own_slice hown4; subst hv4; have O4 := Lib.hid hown4; have R4 := Lib.hid (Fr.app (rows := []) (fun r hr => by cases hr) R1.out hgr4 hb4); have BP4 := Lib.hid (BP1.out.by_ hgr4 (fun k hk => by cases hk) (fun e => by cases e)); have BQ4 := Lib.hid (BQ1.out.by_ hgr4 (fun k hk => by cases hk) (fun e => by cases e)); have BR4 := Lib.hid ((B1.out : BoxH w rb _ _ w1).by_ hgr4 (fun k hk => by cases hk) (fun e => by cases e)); have NE4 : Hid (∀ k, k ≤ rb → (Value.slice X4 (0 + 1) cc4).ownBlock ≠ some k) := (fun k hk e => by rcases hb4 with h | h <;> rw [h] at e <;> cases e; have := SZ.out; omega); have p4 := BP4.out.cell 0; have f4 := BP4.out.free 0; have BP5 := Lib.hid (BP4.out.set 0 (.slice X4 (0 + 1) cc4)); have BQ5 := Lib.hid (BQ4.out.other (j := 0) (v := .slice X4 (0 + 1) cc4) (cc := w.heap.size) (by have := N0.out; omega) (Nat.le_refl _)); have BR5 := Lib.hid (BR4.out.other (j := 0) (v := .slice X4 (0 + 1) cc4) (cc := w.heap.size) (by have := N0.out; omega) (Nat.le_refl _)); have r5 := BR5.out.cell 1; have p5 := BP5.out.cell 0; have fp5 := BP5.out.free 0; have q5 := BQ5.out.cell 0; have fq5 := BQ5.out.free 0; have n1 : qb ≠ w.heap.size := (by have := N0.out; omega); have n2 : w.heap.size ≠ qb := (by have := N0.out; omega); clear hown4 hg4 hgr4 hb4)
      exact dec_fin (rows := [PRow.mk (.slice X1 ps.length cc1) ps]) HR.out HD.out (Nat.le_refl _) N0.out.1 N0.out.2 BP5.out BQ5.out (own_set O4.out (NE4.out _ (by have := N0.out; omega))) NE4.out (fun r hr => Fr.put (R4.out r hr) (by have := N0.out; omega)) rfl rfl
end Go.Proofs.YtjalimkajcjapaaDoor

namespace Go.Proofs.YtjalimkajcjapaaDoor
open Go.RowKit B

theorem preR_nil (r : Except Int (List (List Pt))) : preR [] r = r := by cases r <;> rfl
theorem ne_nil (rb : Nat) : ∀ k, k ≤ rb → (Value.slice none 0 0).ownBlock ≠ some k := fun k _ e => by cases e

set_option maxRecDepth 100000 in
set_option maxHeartbeats 8000000 in
theorem decode_more (kind : Int) (l : List Int) (lv : Value) (S : Nat → Prop) (w : World) (hk : 2 ≤ kind ∧ kind ≤ 3) (hl : Rd w S 1 lv l.length (U32 l)) (hu : ∀ x ∈ l, 0 ≤ x ∧ x ≤ 4294967295) (hlen : l.length ≤ 1000) {R : Ending → World → Prop} (hR : DecH kind l w R) :
    Calls Tryd.prog 70 #[.int .i64 kind, lv] w R := by
  have hl := hl.lt (by decide)
  have T0 : Hid ((decide (1 ≤ kind) && decide (kind ≤ 3)) = true) := by show _ = _; simp; omega
  have t1 : (kind == 1) = false := by rw [beq_eq_false_iff_ne]; omega
  have HD0 : Hid (decS kind l = decG (l.length + 1) kind ⟨0, 0⟩ l) := by show _ = _; unfold decS; rw [if_neg (by omega), if_neg (by omega)]
  have HK := Lib.hid hk
  have HLEN := Lib.hid hlen
  clear hk
  have HR := Lib.hid hR
  have hmf := hmf
  have HL := Lib.hid hl
  have HU := Lib.hid hu
  obtain ⟨_, A, c, rfl, h1, h2, h3, h4⟩ := hl
  unfold maxLen at h2
  clear hR h3 h4 hu
  have BP := Lib.hid (((BoxH.laid #[.slice none 0 0] 38 (Grow.refl w)).tr ((Grow.refl _).al (.cells #[.int .i64 0] 26))).tr ((Grow.refl _).al (.cells #[.slice A l.length c, .int .i64 0, .int .i64 0, .int .i64 0] 143)))
  have BQ : Hid (BoxH w (w.heap.size + 1) #[.int .i64 0] 26 (((w.alloc (.cells #[.slice none 0 0] 38)).alloc (.cells #[.int .i64 0] 26)).alloc (.cells #[.slice A l.length c, .int .i64 0, .int .i64 0, .int .i64 0] 143))) := by
    have := ((BoxH.laid (w := w.alloc (.cells #[.slice none 0 0] 38)) #[.int .i64 0] 26 ((Grow.refl w).al _)).tr ((Grow.refl _).al (.cells #[.slice A l.length c, .int .i64 0, .int .i64 0, .int .i64 0] 143)))
    rw [World.size_alloc] at this
    exact this
  have BR : Hid (RdrB w (w.heap.size + 2) (.slice A l.length c) 0 ⟨0, 0⟩ (((w.alloc (.cells #[.slice none 0 0] 38)).alloc (.cells #[.int .i64 0] 26)).alloc (.cells #[.slice A l.length c, .int .i64 0, .int .i64 0, .int .i64 0] 143))) := by
    have := (BoxH.laid (w := (w.alloc (.cells #[.slice none 0 0] 38)).alloc (.cells #[.int .i64 0] 26)) #[.slice A l.length c, .int .i64 0, .int .i64 0, .int .i64 0] 143 (((Grow.refl w).al _).al _))
    rw [World.size_alloc, World.size_alloc] at this
    exact this
  go_enter_defers Tryd.func70, Tryd.ntmps70
  go_wp2_with fail
  go_at_call 62
  refine known_any _ _ ?_
  rw [T0.out]
  go_wp2_with fail
  generalize ((w.alloc (.cells #[.slice none 0 0] 38)).alloc (.cells #[.int .i64 0] 26)).alloc (.cells #[.slice A l.length c, .int .i64 0, .int .i64 0, .int .i64 0] 143) = wa at *
  rw [show w.heap.size + 2 = w.heap.size + 1 + 1 from rfl] at BR
  have PA := Lib.hid fun j b W (h : RdrB w (w.heap.size + 1 + 1) (.slice A l.length c) j b W) (hn : Near b) (R : Ending → World → Prop) hE hR => path_any kind l (.slice A l.length c) (w.heap.size + 1 + 1) j b w W HK.out h HL.out HU.out hn HLEN.out (R := R) hE hR
  have N0 : Hid (w.heap.size < w.heap.size + 1 ∧ w.heap.size + 1 < w.heap.size + 1 + 1) := ⟨by omega, by omega⟩
  generalize w.heap.size + 1 = qb at *
  generalize qb + 1 = rb at *
  clear t1 hlen hl
  go_loopw [7] (fun f wr => ∃ (b : Bool) (i fu : Nat) (a : Pt) (rows : List PRow) (v : Value), f = .bool b ∧ Hid (BoxH w w.heap.size #[v] 38 wr) ∧ Hid (BoxH w qb #[.int .i64 0] 26 wr) ∧ Hid (RdrB w rb (.slice A l.length c) i a wr) ∧ Hid (wr.ownsRow w.heap.size 78 1 v rows.length (rows.map PRow.v)) ∧ Hid (∀ k, k ≤ rb → v.ownBlock ≠ some k) ∧ Hid (∀ r ∈ rows, r.rd wr (Fr rb v)) ∧ Hid (Near a) ∧ Hid (rows.length ≤ i ∧ i ≤ l.length ∧ l.length < i + fu) ∧ Hid (decS kind l = if b = true ∨ i < l.length then preR (rows.map PRow.l) (decG fu kind a (l.drop i)) else .ok (rows.map PRow.l))) (fun _ wr => l.length - (intOf ((wr.cell? ⟨rb, 1, none⟩).getD undef)).toNat)
  case atStart => exact ⟨true, 0, l.length + 1, ⟨0, 0⟩, [], .slice none 0 0, rfl, BP.out, BQ.out, BR.out, World.ownsRow_nil _ _ _ _, ne_nil rb, (fun r hr => by cases hr), ⟨⟨by decide, by decide⟩, by decide, by decide⟩, ⟨Nat.zero_le _, Nat.zero_le _, by omega⟩, by
    show _ = _
    rw [if_pos (.inl rfl), HD0.out]
    exact (preR_nil _).symm⟩
  case round =>
    clear BP BQ BR HD0
    obtain ⟨b, i, fu, a, rows, v, rfl, BP, BQ, BR, O, NE, RS, NA, BD, HD⟩ := hrel
    obtain ⟨X, cx, hvx⟩ := own_slice O.out
    subst hvx
    have r1 := (BR.out : BoxH w rb _ _ wr).cell 1
    have MS : Hid (l.length - (intOf ((wr.cell? ⟨rb, 1, none⟩).getD undef)).toNat = l.length - i) := by show _ = _; rw [r1]; simp [intOf]
    by_cases hb : b = true ∨ i < l.length
    · have HDB : Hid (decS kind l = preR (rows.map PRow.l) (decG fu kind a (l.drop i))) := by have := HD.out; rw [if_pos hb] at this; exact this
      clear HD
      cases b with
      | true =>
        clear r1
        go_wp2_with fail
        refine wp_region_lexTD (fun W => BoxH w w.heap.size #[.slice X rows.length cx] 38 W) (BP.out.tr (Grow.refl _).dr) 5 [0, 1, 2, 3, 4] (off35) (by kernel_rfl) (by kernel_rfl) (by kernel_rfl) (fun c a d v w hd h => put35 c a d v w hd h) ?_
        iterate 1 (apply lext_take; exact rfl; exact rfl; (intro W hW; have y := hW.cell 0; (try clear hW); go_simp; with_reducible rfl); try simp only [Act.put, List.setIfInBounds_toArray, List.set_cons_zero, List.set_cons_succ])
        iterate 2 (apply lext_take; exact rfl; exact rfl; (intro W hW; (try clear hW); go_simp; with_reducible rfl); try simp only [Act.put, List.setIfInBounds_toArray, List.set_cons_zero, List.set_cons_succ])
        apply lext_turn; exact rfl; exact rfl; exact rfl; intro K hK; go_simp; go_at_call 74; refine PA.out i a _ (BR.out.tr (Grow.refl _).dr) NA.out _ ?_ ?_
        · intro e he w' hg'
          refine door_stop w.heap.size qb (.slice X rows.length cx) (.int .i64 0) e w w' ?_ ?_ ?_ rfl rfl ?_
          · exact (BP.out.tr (Grow.refl _).dr).by_ hg' (fun k hk => by injection hk with hk; have := N0.out; omega) (fun e => by injection e with e; have := N0.out; omega)
          · exact (BQ.out.tr (Grow.refl _).dr).by_ hg' (fun k hk => by injection hk with hk; have := N0.out; omega) (fun e => by injection e with e; have := N0.out; omega)
          · have := N0.out; omega
          · intro w3 hg3
            refine HR.out.1 e ?_ w3 hg3
            obtain ⟨fu', hfu⟩ : ∃ fu', fu = fu' + 1 := ⟨fu - 1, by have := BD.out; omega⟩
            rw [HDB.out, hfu, decG_err he]; rfl
        · intro ps j hps hj v1 w1 hB1 hO1 hg1 hn1
          have hij : i < j := by have := (pathS_len hps).1; rw [List.length_drop, List.length_drop] at this; omega
          have MJ := Lib.hid hij
          have B1 := Lib.hid hB1
          have O1 := Lib.hid hO1
          have J := Lib.hid hj
          have PS := Lib.hid hps
          have NA1 := Lib.hid hn1
          have BP1 := Lib.hid ((BP.out.tr (Grow.refl _).dr).by_ hg1 (fun k hk => by injection hk with hk; have := N0.out; omega) (fun e => by injection e with e; have := N0.out; omega))
          have BQ1 := Lib.hid ((BQ.out.tr (Grow.refl _).dr).by_ hg1 (fun k hk => by injection hk with hk; have := N0.out; omega) (fun e => by injection e with e; have := N0.out; omega))
          have OV1 : Hid (w1.ownsRow w.heap.size 78 1 (.slice X rows.length cx) rows.length (rows.map PRow.v)) := (own_grow O.out (Grow.refl _).dr).kept hg1 (.inr (NE.out rb (Nat.le_refl _)))
          have RS1 : Hid (∀ r ∈ rows, r.rd w1 (Fr rb (.slice X rows.length cx))) := fun r hr => ((RS.out r hr).gr2 (by decide) (Grow.refl _).dr).by_ (by decide) hg1 (fun b hb e => by injection e with e; have := hb.1; omega)
          obtain ⟨X1, cc1, hv1⟩ := own_slice hO1
          subst hv1
          refine hK.out _ _ BP1.out ?_
          have WA : Hid (rb < wr.drew.heap.size) := (BR.out : BoxH w rb _ _ wr).lt
          have OW : Hid (∀ k, (Value.slice X rows.length cx).ownBlock = some k → k < wr.drew.heap.size) := fun k hk => (O.out.lt k hk).2
          have R1 : Hid (PRow.rd w1 (Fr rb (.slice X rows.length cx)) ⟨.slice X1 ps.length cc1, ps⟩) := (Rd.own_from O1.out).into fun b hb => ⟨by have := WA.out; omega, by intro e; have := OW.out b e.symm; omega⟩
          have SZ : Hid (rb < w1.heap.size) := (B1.out : BoxH w rb _ _ w1).lt
          have ML : Hid (rows.length ≤ 1000) := by show _ ≤ _; have := BD.out; have := HLEN.out; omega
          clear hK hB1 hO1 hg1 hn1 hj hps hij BP BQ BR O RS NA
          try simp only [Act.put, List.setIfInBounds_toArray, List.set_cons_zero, List.set_cons_succ]
          apply lext_turn; exact rfl; exact rfl; exact rfl; intro K hK; go_simp; refine hK.out _ _ (BP1.out.tr ((Grow.refl _).al _)) ?_; clear hK; try simp only [Act.put, List.setIfInBounds_toArray, List.set_cons_zero, List.set_cons_succ]
          refine lext_nil ?_
          simp only [List.drop_succ_cons, List.drop_zero]
          go_wp2_with (at_builtin; refine wpList_new (w0 := w) rfl _ _ rfl el_prow OV1.out rfl 1 _ rfl (by decide) rfl (by simp [Value.oneCell']) (by have := ML.out; omega) BP1.out.grow ⟨Nat.le_refl _, BP1.out.grow.size⟩ ?_; intro v4 w4 hown4 hg4 hgr4 hb4; obtain ⟨X4, cc4, hv4⟩ := own_slice hown4; subst hv4; have O4 := Lib.hid hown4; have R4 := Lib.hid (Fr.app RS1.out R1.out hgr4 hb4); have BP4 := Lib.hid (BP1.out.by_ hgr4 (own_ge OV1.out) (fun e => NE.out _ (by have := N0.out; omega) e.symm)); have BQ4 := Lib.hid (BQ1.out.by_ hgr4 (own_ge OV1.out) (fun e => NE.out _ (by have := N0.out; omega) e.symm)); have BR4 := Lib.hid ((B1.out : BoxH w rb _ _ w1).by_ hgr4 (own_ge OV1.out) (fun e => NE.out _ (by have := N0.out; omega) e.symm)); have NE4 : Hid (∀ k, k ≤ rb → (Value.slice X4 (rows.length + 1) cc4).ownBlock ≠ some k) := (fun k hk e => by rcases hb4 with h | h <;> rw [h] at e; exact NE.out k hk e; injection e with e; have := SZ.out; omega); have p4 := BP4.out.cell 0; have f4 := BP4.out.free 0; clear hown4 hg4 hgr4 hb4)
          have BP5 := Lib.hid (BP4.out.set 0 (.slice X4 (rows.length + 1) cc4))
          have BQ5 := Lib.hid (BQ4.out.other (j := 0) (v := .slice X4 (rows.length + 1) cc4) (cc := w.heap.size) (by have := N0.out; omega) (Nat.le_refl _))
          have BR5 := Lib.hid (BR4.out.other (j := 0) (v := .slice X4 (rows.length + 1) cc4) (cc := w.heap.size) (by have := N0.out; omega) (Nat.le_refl _))
          go_roundw
          case rel =>
            refine ⟨false, j, fu - 1, lastPt a ps, rows ++ [PRow.mk (.slice X1 ps.length cc1) ps], _, rfl, BP5.out, BQ5.out, BR5.out, own_eq (own_set O4.out (NE4.out _ (by have := N0.out; omega))) (by simp) (by simp), NE4.out, (fun r hr => Fr.put (R4.out r hr) (by have := N0.out; omega)), NA1.out, ?_, ?_⟩
            · show _ ∧ _ ∧ _
              rw [List.length_append, List.length_singleton]
              have := BD.out; have := MJ.out; have := J.out
              omega
            · show _ = _
              obtain ⟨fu', hfu⟩ : ∃ fu', fu = fu' + 1 := ⟨fu - 1, by have := BD.out; omega⟩
              rw [HDB.out, hfu, List.map_append]
              by_cases hjl : j < l.length
              · rw [if_pos (.inr hjl), decG_more PS.out hjl, preR_app]; rfl
              · rw [if_neg (by simp; omega), decG_last PS.out (by omega)]; rfl
          case measure =>
            have r5 := BR5.out.cell 1
            rw [MS.out, r5]
            simp [intOf]
            have := MJ.out; have := J.out
            omega
      | false =>
        have hlt : i < l.length := by simpa using hb
        have t1 : decide (i < l.length) = true := decide_eq_true hlt
        clear hlt
        go_wp2_with fail
        clear t1
        clear r1
        go_wp2_with fail
        refine wp_region_lexTD (fun W => BoxH w w.heap.size #[.slice X rows.length cx] 38 W) (BP.out.tr (Grow.refl _).dr) 5 [0, 1, 2, 3, 4] (off35) (by kernel_rfl) (by kernel_rfl) (by kernel_rfl) (fun c a d v w hd h => put35 c a d v w hd h) ?_
        iterate 1 (apply lext_take; exact rfl; exact rfl; (intro W hW; have y := hW.cell 0; (try clear hW); go_simp; with_reducible rfl); try simp only [Act.put, List.setIfInBounds_toArray, List.set_cons_zero, List.set_cons_succ])
        iterate 2 (apply lext_take; exact rfl; exact rfl; (intro W hW; (try clear hW); go_simp; with_reducible rfl); try simp only [Act.put, List.setIfInBounds_toArray, List.set_cons_zero, List.set_cons_succ])
        apply lext_turn; exact rfl; exact rfl; exact rfl; intro K hK; go_simp; go_at_call 74; refine PA.out i a _ (BR.out.tr (Grow.refl _).dr) NA.out _ ?_ ?_
        · intro e he w' hg'
          refine door_stop w.heap.size qb (.slice X rows.length cx) (.int .i64 0) e w w' ?_ ?_ ?_ rfl rfl ?_
          · exact (BP.out.tr (Grow.refl _).dr).by_ hg' (fun k hk => by injection hk with hk; have := N0.out; omega) (fun e => by injection e with e; have := N0.out; omega)
          · exact (BQ.out.tr (Grow.refl _).dr).by_ hg' (fun k hk => by injection hk with hk; have := N0.out; omega) (fun e => by injection e with e; have := N0.out; omega)
          · have := N0.out; omega
          · intro w3 hg3
            refine HR.out.1 e ?_ w3 hg3
            obtain ⟨fu', hfu⟩ : ∃ fu', fu = fu' + 1 := ⟨fu - 1, by have := BD.out; omega⟩
            rw [HDB.out, hfu, decG_err he]; rfl
        · intro ps j hps hj v1 w1 hB1 hO1 hg1 hn1
          have hij : i < j := by have := (pathS_len hps).1; rw [List.length_drop, List.length_drop] at this; omega
          have MJ := Lib.hid hij
          have B1 := Lib.hid hB1
          have O1 := Lib.hid hO1
          have J := Lib.hid hj
          have PS := Lib.hid hps
          have NA1 := Lib.hid hn1
          have BP1 := Lib.hid ((BP.out.tr (Grow.refl _).dr).by_ hg1 (fun k hk => by injection hk with hk; have := N0.out; omega) (fun e => by injection e with e; have := N0.out; omega))
          have BQ1 := Lib.hid ((BQ.out.tr (Grow.refl _).dr).by_ hg1 (fun k hk => by injection hk with hk; have := N0.out; omega) (fun e => by injection e with e; have := N0.out; omega))
          have OV1 : Hid (w1.ownsRow w.heap.size 78 1 (.slice X rows.length cx) rows.length (rows.map PRow.v)) := (own_grow O.out (Grow.refl _).dr).kept hg1 (.inr (NE.out rb (Nat.le_refl _)))
          have RS1 : Hid (∀ r ∈ rows, r.rd w1 (Fr rb (.slice X rows.length cx))) := fun r hr => ((RS.out r hr).gr2 (by decide) (Grow.refl _).dr).by_ (by decide) hg1 (fun b hb e => by injection e with e; have := hb.1; omega)
          obtain ⟨X1, cc1, hv1⟩ := own_slice hO1
          subst hv1
          refine hK.out _ _ BP1.out ?_
          have WA : Hid (rb < wr.drew.heap.size) := (BR.out : BoxH w rb _ _ wr).lt
          have OW : Hid (∀ k, (Value.slice X rows.length cx).ownBlock = some k → k < wr.drew.heap.size) := fun k hk => (O.out.lt k hk).2
          have R1 : Hid (PRow.rd w1 (Fr rb (.slice X rows.length cx)) ⟨.slice X1 ps.length cc1, ps⟩) := (Rd.own_from O1.out).into fun b hb => ⟨by have := WA.out; omega, by intro e; have := OW.out b e.symm; omega⟩
          have SZ : Hid (rb < w1.heap.size) := (B1.out : BoxH w rb _ _ w1).lt
          have ML : Hid (rows.length ≤ 1000) := by show _ ≤ _; have := BD.out; have := HLEN.out; omega
          clear hK hB1 hO1 hg1 hn1 hj hps hij BP BQ BR O RS NA
          try simp only [Act.put, List.setIfInBounds_toArray, List.set_cons_zero, List.set_cons_succ]
          apply lext_turn; exact rfl; exact rfl; exact rfl; intro K hK; go_simp; refine hK.out _ _ (BP1.out.tr ((Grow.refl _).al _)) ?_; clear hK; try simp only [Act.put, List.setIfInBounds_toArray, List.set_cons_zero, List.set_cons_succ]
          refine lext_nil ?_
          simp only [List.drop_succ_cons, List.drop_zero]
          go_wp2_with (at_builtin; refine wpList_new (w0 := w) rfl _ _ rfl el_prow OV1.out rfl 1 _ rfl (by decide) rfl (by simp [Value.oneCell']) (by have := ML.out; omega) BP1.out.grow ⟨Nat.le_refl _, BP1.out.grow.size⟩ ?_; intro v4 w4 hown4 hg4 hgr4 hb4; obtain ⟨X4, cc4, hv4⟩ := own_slice hown4; subst hv4; have O4 := Lib.hid hown4; have R4 := Lib.hid (Fr.app RS1.out R1.out hgr4 hb4); have BP4 := Lib.hid (BP1.out.by_ hgr4 (own_ge OV1.out) (fun e => NE.out _ (by have := N0.out; omega) e.symm)); have BQ4 := Lib.hid (BQ1.out.by_ hgr4 (own_ge OV1.out) (fun e => NE.out _ (by have := N0.out; omega) e.symm)); have BR4 := Lib.hid ((B1.out : BoxH w rb _ _ w1).by_ hgr4 (own_ge OV1.out) (fun e => NE.out _ (by have := N0.out; omega) e.symm)); have NE4 : Hid (∀ k, k ≤ rb → (Value.slice X4 (rows.length + 1) cc4).ownBlock ≠ some k) := (fun k hk e => by rcases hb4 with h | h <;> rw [h] at e; exact NE.out k hk e; injection e with e; have := SZ.out; omega); have p4 := BP4.out.cell 0; have f4 := BP4.out.free 0; clear hown4 hg4 hgr4 hb4)
          have BP5 := Lib.hid (BP4.out.set 0 (.slice X4 (rows.length + 1) cc4))
          have BQ5 := Lib.hid (BQ4.out.other (j := 0) (v := .slice X4 (rows.length + 1) cc4) (cc := w.heap.size) (by have := N0.out; omega) (Nat.le_refl _))
          have BR5 := Lib.hid (BR4.out.other (j := 0) (v := .slice X4 (rows.length + 1) cc4) (cc := w.heap.size) (by have := N0.out; omega) (Nat.le_refl _))
          go_roundw
          case rel =>
            refine ⟨false, j, fu - 1, lastPt a ps, rows ++ [PRow.mk (.slice X1 ps.length cc1) ps], _, rfl, BP5.out, BQ5.out, BR5.out, own_eq (own_set O4.out (NE4.out _ (by have := N0.out; omega))) (by simp) (by simp), NE4.out, (fun r hr => Fr.put (R4.out r hr) (by have := N0.out; omega)), NA1.out, ?_, ?_⟩
            · show _ ∧ _ ∧ _
              rw [List.length_append, List.length_singleton]
              have := BD.out; have := MJ.out; have := J.out
              omega
            · show _ = _
              obtain ⟨fu', hfu⟩ : ∃ fu', fu = fu' + 1 := ⟨fu - 1, by have := BD.out; omega⟩
              rw [HDB.out, hfu, List.map_append]
              by_cases hjl : j < l.length
              · rw [if_pos (.inr hjl), decG_more PS.out hjl, preR_app]; rfl
              · rw [if_neg (by simp; omega), decG_last PS.out (by omega)]; rfl
          case measure =>
            have r5 := BR5.out.cell 1
            rw [MS.out, r5]
            simp [intOf]
            have := MJ.out; have := J.out
            omega
    · have HDB : Hid (decS kind l = .ok (rows.map PRow.l)) := by have := HD.out; rw [if_neg hb] at this; exact this
      have hb2 : b = false := by cases b <;> simp_all
      subst hb2
      have t1 : decide (i < l.length) = false := decide_eq_false (by simpa using hb)
      have p1 := BP.out.cell 0
      have f1 := BP.out.free 0
      have q1 := BQ.out.cell 0
      have fq1 := BQ.out.free 0
      have n1 : qb ≠ w.heap.size := by have := N0.out; omega
      have n2 : w.heap.size ≠ qb := by have := N0.out; omega
      clear hb HD
      go_wp2
      exact dec_fin HR.out HDB.out (Nat.le_refl _) N0.out.1 N0.out.2 BP.out BQ.out O.out NE.out RS.out rfl rfl
end Go.Proofs.YtjalimkajcjapaaDoor
