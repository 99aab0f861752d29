/-
  TopWinds, walked.
-/
import Derived.Test.YteeeeddeacepmaaGreatDoorChecked
import Derived.Test.YteeeeddeacepmaaGreatDoorRW2
import Derived.Test.YteeeeddeacepmaaGreatDoorRngB
import Derived.Test.YteeeeddeacepmaaGreatDoorTwP
import Derived.Test.YteeeeddeacepmaaGreatDoorOvAB
import Derived.Test.YteeeeddeacepmaaGreatDoorPRightA
import Derived.Deep.CutRange
namespace Go.Proofs.YteeeeddeacepmaaGreatDoor
open Go.RowKit B

theorem Fr.at_ {f : Fr} {W : World} {b : Nat} {t : TypeId} {fr : Nat × Nat} (h : W.heap[b]? = some (.cells f.cells.toArray t fr)) :
    W.cell? ⟨b, 0, none⟩ = some (.int .i64 f.q) ∧ W.cell? ⟨b, 1, none⟩ = some (.int .u64 f.r) ∧ W.cell? ⟨b, 2, none⟩ = some (.int .u64 f.d) := by
  refine ⟨?_, ?_, ?_⟩ <;> (rw [cell_of_row _ _ _ _ _ _ h]; rfl)
/-- two rows under way: scaled points, and places -/
structure WSt (w0 : World) (sv av : Value) (ls : List Pt) (m : List PV) (W : World) : Prop where
  gr : Grow w0 W
  os : W.ownsRow w0.heap.size 36 2 sv ls.length (Pts ls)
  oa : W.ownsRow w0.heap.size 44 8 av m.length (PVs m)
  ne : ∀ k, sv.ownBlock = some k → av.ownBlock ≠ some k
  vo : ∀ p ∈ m, p.rd W (OffB sv av) 9
section
variable {w0 W W' : World} {sv av sv' av' : Value} {ls ls' : List Pt} {m m' : List PV}
theorem WSt.tr (h : WSt w0 sv av ls m W) (hg : Grow W W') : WSt w0 sv av ls m W' :=
  ⟨h.gr.tr hg, own_grow h.os hg, own_grow h.oa hg, h.ne, fun p hp => (h.vo p hp).gr hg⟩
theorem WSt.off (h : WSt w0 sv av ls m W) {b : Nat} (hb : W.heap.size ≤ b) : OffB sv av b :=
  ⟨fun e => by have := (h.os.lt b e.symm).2; omega, fun e => by have := (h.oa.lt b e.symm).2; omega⟩
theorem WSt.ps (h : WSt w0 sv av ls m W) (hg : W.grownBy W' sv.ownBlock) (ho : W'.ownsRow w0.heap.size 36 2 sv' ls'.length (Pts ls')) (hf : Fresh W sv sv') : WSt w0 sv' av ls' m W' := by
  have pk : av.ownBlock = none ∨ av.ownBlock ≠ sv.ownBlock := by
    cases e : av.ownBlock with
    | none => exact .inl rfl
    | some k => exact .inr fun e2 => h.ne k e2.symm e
  refine ⟨grow_app h.gr hg (own_ge h.os), ho, h.oa.kept hg pk, ?_, fun p hp => (((h.vo p hp).both).by_ hg (fun b hb => hb.1.1)).into fun b hb => ⟨hf.off hb.2 hb.1.1, hb.1.2⟩⟩
  intro k hk e
  rcases hf with e1 | ⟨j, e1, hj⟩
  · exact h.ne k (e1.symm.trans hk) e
  · rw [hk] at e1
    injection e1 with e1
    have := (h.oa.lt k e).2
    omega
theorem WSt.pa (h : WSt w0 sv av ls m W) (hg : W.grownBy W' av.ownBlock) (ho : W'.ownsRow w0.heap.size 44 8 av' m'.length (PVs m')) (hf : Fresh W av av') (hx : ∀ p ∈ m', p.rd W (OffB sv av) 9) : WSt w0 sv av' ls m' W' := by
  have pk : sv.ownBlock = none ∨ sv.ownBlock ≠ av.ownBlock := by
    cases e : sv.ownBlock with
    | none => exact .inl rfl
    | some k => exact .inr fun e2 => h.ne k e e2.symm
  refine ⟨grow_app h.gr hg (own_ge h.oa), h.os.kept hg pk, ho, ?_, fun p hp => (((hx p hp).both).by_ hg (fun b hb => hb.1.2)).into fun b hb => ⟨hb.1.1, hf.off hb.2 hb.1.2⟩⟩
  intro k hk e
  rcases hf with e1 | ⟨j, e1, hj⟩
  · exact h.ne k hk (e1.symm.trans e)
  · rw [e] at e1
    injection e1 with e1
    have := (h.os.lt k hk).2
    omega
end
theorem prt_in {ty : Int} {A : List PRow} (h : pright ty A = 0) : 0 < A.length ∧ (ty = 1 → A.length = 1) ∧ ∀ r ∈ A, ∀ p ∈ r.l, (-1048576 ≤ p.x ∧ p.x ≤ 1048576) ∧ -1048576 ≤ p.y ∧ p.y ≤ 1048576 := by
  unfold pright at h
  split at h
  · omega
  · split at h
    · omega
    · rename_i h2
      split at h
      · omega
      · split at h
        · omega
        · rename_i h4
          refine ⟨by omega, fun e => by omega, fun r hr p hp => ?_⟩
          unfold offsR offs at h4
          simp only [List.any_eq_true, not_exists, not_and] at h4
          have := h4 r hr p hp
          unfold Pt.off inm at this
          simp only [Bool.or_eq_true, Bool.not_eq_true', Bool.and_eq_false_iff, decide_eq_false_iff_not] at this
          omega

theorem ZmT.at_ {z : Zm} {W : World} {b : Nat} {t : TypeId} {fr : Nat × Nat} (h : W.heap[b]? = some (.cells z.cells.toArray t fr)) (i : Nat) : W.cell? ⟨b, i, none⟩ = z.cells[i]? := by
  rw [cell_of_row _ _ _ _ _ _ h, List.getElem?_toArray]
/-- the zoom that the law draws -/
theorem top_z {up e X Y b : Int} (hu : 0 ≤ up ∧ up ≤ 30) (he : 1 ≤ e ∧ e ≤ 65536) (hX : 0 ≤ X ∧ X < pw up) (hY : 0 ≤ Y ∧ Y < pw up) (hb : 0 ≤ b ∧ b ≤ e) : zright ⟨up, X, Y, b⟩ e = true :=
  zright_of ⟨he.1, he.2, hu.1, hu.2, hb.1, hb.2, hX.1, hX.2, hY.1, hY.2⟩
theorem top_far {z : Zm} {e : Int} {l : List Pt} (hz : zright z e = true) (hb : ∀ p ∈ l, (-1048576 ≤ p.x ∧ p.x ≤ 1048576) ∧ -1048576 ≤ p.y ∧ p.y ≤ 1048576) : lineE (l.map (scl z e)) (-z.b) (e + z.b) = 0 ∧ ∀ p ∈ l.map (scl z e), p.ok := by
  obtain ⟨h1, h2, -, -, h5, h6, h7, h8, h9, h10⟩ := zright_iff hz
  have key : ∀ q ∈ l, (-1200000000000000 ≤ (scl z e q).x ∧ (scl z e q).x ≤ 1200000000000000) ∧ -1200000000000000 ≤ (scl z e q).y ∧ (scl z e q).y ≤ 1200000000000000 := by
    intro q hq
    have a := scl_room hz (hb q hq).1 ⟨h7, h8⟩
    have b := scl_room hz (hb q hq).2 ⟨h9, h10⟩
    unfold scl
    dsimp only
    omega
  constructor
  · refine lineE_zero.2 ⟨by omega, ?_, ?_, fun p hp => ?_⟩
    · unfold inw; rw [decide_eq_true (show -4503599627370496 ≤ -z.b by omega), decide_eq_true (show -z.b ≤ 4503599627370496 by omega)]; rfl
    · unfold inw; rw [decide_eq_true (show -4503599627370496 ≤ e + z.b by omega), decide_eq_true (show e + z.b ≤ 4503599627370496 by omega)]; rfl
    · obtain ⟨q, hq, rfl⟩ := List.mem_map.1 hp
      have := key q hq
      unfold Pt.far inw
      rw [decide_eq_true (show -4503599627370496 ≤ (scl z e q).x by omega), decide_eq_true (show (scl z e q).x ≤ 4503599627370496 by omega), decide_eq_true (show -4503599627370496 ≤ (scl z e q).y by omega), decide_eq_true (show (scl z e q).y ≤ 4503599627370496 by omega)]
      rfl
  · intro p hp
    obtain ⟨q, hq, rfl⟩ := List.mem_map.1 hp
    have := key q hq
    exact ⟨⟨by omega, by omega⟩, by omega, by omega⟩

set_option maxRecDepth 100000 in
set_option maxHeartbeats 1000000 in
theorem codeT_any (n : Int) (w : World) {R : Ending → World → Prop} (hR : R (.returned (.int .i64 n)) w) :
    Calls Tryz.prog 10 #[.int .i64 n] w R := by
  go_enter Tryz.func10, Tryz.ntmps10
  go_wp2
  exact hR

set_option maxRecDepth 100000 in
set_option maxHeartbeats 16000000 in
theorem topWinds_walk (l : List Pt) (up x y ex bf : Int) (fx fy : Fr) (v : Value) (S : Nat → Prop) (w : World) (hl : Rd w S 2 v l.length (Pts l)) (hok : ∀ p ∈ l, p.ok) (hup : 0 ≤ up ∧ up ≤ 255) (hx : 0 ≤ x ∧ x ≤ 4294967295) (hy : 0 ≤ y ∧ y ≤ 4294967295) (hex : 0 ≤ ex ∧ ex ≤ 65535) (hbf : 0 ≤ bf ∧ bf ≤ 255) (hfx : fx.ok) (hfy : fy.ok)
    (hlive : ∀ W, Grow w W → ∀ R : Ending → World → Prop, (∀ W', Grow W W' → R (.returned (.bool true)) W') → Calls Tryz.prog 6 #[] W R)
    {R : Ending → World → Prop} (hR : ∀ w', Grow w w' → R (.returned (.bool true)) w') :
    Calls Tryz.prog 3 #[v, .int .u8 up, .int .u32 x, .int .u32 y, .int .u16 ex, .int .u8 bf, .agg fx.cells.toArray, .agg fy.cells.toArray] w R := by
  have HR := Lib.hid hR
  have HLV := Lib.hid hlive
  have HOK := Lib.hid hok
  clear hR hlive hok
  have hl := hl.lt (by decide)
  have HL := Lib.hid hl
  obtain ⟨_, A, c, rfl, k1, k2, k3, k4⟩ := hl
  unfold maxLen at k2
  clear k3
  have K4 := Lib.hid k4
  clear k4
  obtain ⟨wa, hwa⟩ : ∃ wa, wa = (w.alloc (.cells fx.cells.toArray 27)).alloc (.cells fy.cells.toArray 27) := ⟨_, rfl⟩
  have GA : Hid (Grow w wa) := by subst hwa; exact ((Grow.refl w).al _).al _
  have BX : Hid (wa.heap[w.heap.size]? = some (.cells fx.cells.toArray 27 (0, 0))) := by
    subst hwa
    exact blk_al w _ _ ((Grow.refl _).al _)
  have BY : Hid (wa.heap[w.heap.size + 1]? = some (.cells fy.cells.toArray 27 (0, 0))) := by
    subst hwa
    have := blk_al (w.alloc (.cells fx.cells.toArray 27)) fy.cells.toArray 27 (Grow.refl _)
    rwa [World.size_alloc] at this
  obtain ⟨d, hd⟩ : ∃ d, d = up % 31 := ⟨_, rfl⟩
  have hdb : 0 ≤ d ∧ d ≤ 30 := by omega
  have c1 : wrap64 up = up := by unfold wrap64; omega
  have c2 : wrap64 ex = ex := by unfold wrap64; omega
  have t1 : up.tmod 31 = d := by rw [Int.tmod_eq_emod_of_nonneg hup.1, hd]
  have s1 : wrap64 (ex + 1) = ex + 1 := by unfold wrap64; omega
  have hs := wrap_pw (n := d) hdb.1 hdb.2
  clear hd
  go_enter Tryz.func3, Tryz.ntmps3
  go_upto_region 3 with fail
  rw [← hwa]
  clear hwa
  rw [hs]
  clear hs c1 c2 t1 s1
  obtain ⟨e, he⟩ : ∃ e, e = ex + 1 := ⟨_, rfl⟩
  rw [← he]
  have heb : 1 ≤ e ∧ e ≤ 65536 := by omega
  clear he
  have hP := pw_pos d
  have hPl := pw_le hdb.2
  obtain ⟨P, hPd⟩ : ∃ P, P = pw d := ⟨_, rfl⟩
  rw [← hPd] at hP hPl ⊢
  have HPD := Lib.hid hPd
  clear hPd
  obtain ⟨X, hX⟩ : ∃ X, X = x % P := ⟨_, rfl⟩
  obtain ⟨Y, hY⟩ : ∃ Y, Y = y % P := ⟨_, rfl⟩
  have XB : Hid ((0 ≤ X ∧ X < P) ∧ 0 ≤ Y ∧ Y < P) := by
    have := Int.emod_nonneg x (show P ≠ 0 by omega)
    have := Int.emod_lt_of_pos x hP
    have := Int.emod_nonneg y (show P ≠ 0 by omega)
    have := Int.emod_lt_of_pos y hP
    exact ⟨⟨by omega, by omega⟩, by omega, by omega⟩
  obtain ⟨r, hr⟩ : ∃ r, r = bf % 65 := ⟨_, rfl⟩
  have hrb : 0 ≤ r ∧ r ≤ 64 := by omega
  have her : 0 ≤ e * r ∧ e * r ≤ 4194304 := ⟨Int.mul_nonneg (by omega) hrb.1, by
    have : e * r ≤ 65536 * 64 := Int.mul_le_mul heb.2 hrb.2 hrb.1 (by omega)
    omega⟩
  obtain ⟨B, hB⟩ : ∃ B, B = e * r / 64 := ⟨_, rfl⟩
  have hBb : 0 ≤ B ∧ B ≤ e := by
    have : e * r ≤ e * 64 := Int.mul_le_mul_of_nonneg_left hrb.2 (by omega)
    omega
  have ZR : Hid (zright ⟨d, X, Y, B⟩ e = true) := top_z hdb heb (by rw [← HPD.out]; exact XB.out.1) (by rw [← HPD.out]; exact XB.out.2) hBb
  have t3 : x.tmod P = X := by rw [Int.tmod_eq_emod_of_nonneg hx.1, hX]
  have t4 : y.tmod P = Y := by rw [Int.tmod_eq_emod_of_nonneg hy.1, hY]
  have t5 : bf.tmod 65 = r := by rw [Int.tmod_eq_emod_of_nonneg hbf.1, hr]
  have t6 : (e * r).tdiv 64 = B := by rw [Int.tdiv_eq_ediv_of_nonneg her.1, hB]
  have p1 : (P == 0) = false := by rw [beq_eq_false_iff_ne]; omega
  have p2 : ¬ P = 0 := by omega
  have GD := Lib.hid ((Grow.refl wa).dr)
  have BX := Lib.hid (grow_blk GD.out BX.out)
  have BY := Lib.hid (grow_blk GD.out BY.out)
  have GA := Lib.hid (GA.out.tr GD.out)
  have BB : Hid (0 ≤ B ∧ B ≤ 4194304) := by show _ ∧ _; omega
  clear hX hY hr hB GD
  refine wp_region_lexT (Grow wa.drew) ((Grow.refl _)) 17 [0, 1, 2, 3, 4, 5, 6, 7, 8, 9, 10, 11, 12, 13, 14, 15, 16] (by kernel_rfl) (by kernel_rfl) (by intro c a d v w h; cases d <;> exact h) ?_
  generalize wa.drew = w0 at *
  have d2 : IntKind.i64.wrap x = x := IntWalk.i64_in _ (by omega)
  have d3 : IntKind.i64.wrap y = y := IntWalk.i64_in _ (by omega)
  have d4 : IntKind.i64.wrap bf = bf := IntWalk.i64_in _ (by omega)
  have d5 : IntKind.i64.wrap (e * r) = e * r := IntWalk.i64_in _ (by omega)
  have d6 : IntKind.i64.wrap B = B := IntWalk.i64_in _ (by have := BB.out; omega)
  iterate 16 (apply lext_take; exact rfl; exact rfl; (intro W hW; (try clear hW); go_simp; with_reducible rfl); try simp only [Act.put, List.setIfInBounds_toArray, List.set_cons_zero, List.set_cons_succ])
  apply lext_turn; exact rfl; exact rfl; exact rfl; intro K hK; go_simp; refine hK.out _ _ ((Grow.refl _).al _) ?_; clear hK; try simp only [Act.put, List.setIfInBounds_toArray, List.set_cons_zero, List.set_cons_succ]
  refine lext_nil ?_
  simp only [List.drop_succ_cons, List.drop_zero]
  clear t3 t4 t5 t6 p1 p2 d2 d3 d4 d5 d6 her hup hx hy hbf hex hrb
  have F0 : Hid ((w0.alloc (.cells #[.int .i64 0, .int .i64 0, .int .i64 0, .int .i64 0] 29)).heap[w0.heap.size]? = some (.cells #[.int .i64 0, .int .i64 0, .int .i64 0, .int .i64 0] 29 (0, 0))) := heap_alloc_new _ _
  have GL : Hid (Grow w0 (w0.alloc (.cells #[.int .i64 0, .int .i64 0, .int .i64 0, .int .i64 0] 29))) := (Grow.refl _).al _
  generalize w0.alloc (.cells #[.int .i64 0, .int .i64 0, .int .i64 0, .int .i64 0] 29) = w1 at *
  obtain ⟨z0, hz0⟩ : ∃ z0, z0 = w0.heap.size := ⟨_, rfl⟩
  rw [← hz0] at F0 ⊢
  have LZ0 : Hid (w0.heap.size ≤ z0) := by show _ ≤ _; rw [hz0]; exact Nat.le_refl _
  clear hz0
  obtain ⟨z, hz⟩ : ∃ z : Zm, z = ⟨d, X, Y, B⟩ := ⟨_, rfl⟩
  refine wpList_store_row rfl 29 _ _ rfl z0 #[.int .i64 d, .int .i64 X, .int .i64 Y, .int .i64 B] rfl rfl 29 _ F0.out (by kernel_rfl) rfl (by simp [Value.oneCell']) ?_
  rw [show #[.int .i64 d, .int .i64 X, .int .i64 Y, .int .i64 B] = z.cells.toArray from by rw [hz]; rfl]
  have FZ : Hid ((w1.setRow z0 z.cells.toArray).heap[z0]? = some (.cells z.cells.toArray 29 (0, 0))) := setRow_heap _ _ _ _ _ _ F0.out
  have GL : Hid (Grow w0 (w1.setRow z0 z.cells.toArray)) := GL.out.row2 LZ0.out z.cells.toArray
  clear F0 LZ0
  generalize w1.setRow z0 z.cells.toArray = w2 at *
  try simp only [Act.put]
  have BX := Lib.hid (grow_blk GL.out BX.out)
  have BY := Lib.hid (grow_blk GL.out BY.out)
  have GA := Lib.hid (GA.out.tr GL.out)
  have ZU : Hid (z.up = d ∧ z.x = X ∧ z.y = Y ∧ z.b = B) := by rw [hz]; exact ⟨rfl, rfl, rfl, rfl⟩
  rw [← hz] at ZR
  clear hz GL
  have RX := Lib.hid fun W (R : Ending → World → Prop) hR => rright_any fx W hfx (R := R) hR
  have RY := Lib.hid fun W (R : Ending → World → Prop) hR => rright_any fy W hfy (R := R) hR
  by_cases hl1 : 20 < l.length
  · have t1 : decide ((20 : Int) < (l.length : Int)) = true := by rw [decide_eq_true_eq]; omega
    go_wp2_with fail
    go_at_call 6
    refine HLV.out _ GA.out _ ?_
    intro w9 hg9
    have G9 := Lib.hid (GA.out.tr hg9)
    clear hg9
    go_wp2
    exact HR.out _ G9.out
  · have t1 : decide ((20 : Int) < (l.length : Int)) = false := by rw [decide_eq_false_iff_not]; omega
    have LN := Lib.hid (show l.length ≤ 20 by omega)
    clear hl1
    have PR := Lib.hid fun pb W (RP : Rd W (fun b => b = pb) 1 (.slice (some ⟨pb, 0, none⟩) 1 1) 1 [.slice A l.length c]) (h : Grow w W) (R : Ending → World → Prop) hR => rright9_any 3 (.slice (some ⟨pb, 0, none⟩) 1 1) [⟨.slice A l.length c, l⟩] _ _ W RP (fun r hr => by rw [List.mem_singleton.1 hr]; exact HL.out.gr (by decide) h) (R := R) hR
    have PIN : Hid (pright 3 [⟨.slice A l.length c, l⟩] = 0 → ∀ p ∈ l, (-1048576 ≤ p.x ∧ p.x ≤ 1048576) ∧ -1048576 ≤ p.y ∧ p.y ≤ 1048576) := fun h p hp => (prt_in h).2.2 _ (List.mem_singleton.2 rfl) p hp
    obtain ⟨pe, hpe⟩ : ∃ n, pright 3 [⟨.slice A l.length c, l⟩] = n := ⟨_, rfl⟩
    rw [hpe] at PR PIN
    clear hpe
    go_wp2_with fail
    go_at_call 4
    have GL : Hid (Grow w2 (w2.alloc (.cells #[.slice A l.length c] 22))) := (Grow.refl _).al _
    refine PR.out _ _ ((Rd.lit w2 #[.slice A l.length c] 22 1 (by decide) rfl : Rd _ _ 1 _ 1 [.slice A l.length c])) (GA.out.tr GL.out) _ ?_
    intro w3 hg3
    have GL := Lib.hid (GL.out.tr hg3)
    have FZ := Lib.hid (grow_blk GL.out FZ.out)
    have BX := Lib.hid (grow_blk GL.out BX.out)
    have BY := Lib.hid (grow_blk GL.out BY.out)
    have GA := Lib.hid (GA.out.tr GL.out)
    clear hg3 GL PR
    by_cases hpr : pe = 0
    · subst hpr
      have HIN := Lib.hid (PIN.out rfl)
      clear PIN
      cases hrx : fx.right with
      | false =>
        rw [hrx] at RX
        obtain ⟨x0, x1, x2⟩ := Fr.at_ BX.out
        go_wp2_with fail
        go_at_call 5
        refine RX.out _ _ ?_
        intro w4 hg4
        have GA := Lib.hid (GA.out.tr hg4)
        clear hg4 x0 x1 x2
        go_wp2_with fail
        go_at_call 6
        refine HLV.out _ GA.out _ ?_
        intro w9 hg9
        have G9 := Lib.hid (GA.out.tr hg9)
        clear hg9
        go_wp2
        exact HR.out _ G9.out
      | true =>
        rw [hrx] at RX
        obtain ⟨x0, x1, x2⟩ := Fr.at_ BX.out
        go_wp2_with fail
        go_at_call 5
        refine RX.out _ _ ?_
        intro w4 hg4
        have FZ := Lib.hid (grow_blk hg4 FZ.out)
        have BX := Lib.hid (grow_blk hg4 BX.out)
        have BY := Lib.hid (grow_blk hg4 BY.out)
        have GA := Lib.hid (GA.out.tr hg4)
        clear hg4 x0 x1 x2
        cases hry : fy.right with
        | false =>
          rw [hry] at RY
          obtain ⟨y0, y1, y2⟩ := Fr.at_ BY.out
          go_wp2_with fail
          go_at_call 5
          refine RY.out _ _ ?_
          intro w5 hg5
          have GA := Lib.hid (GA.out.tr hg5)
          clear hg5 y0 y1 y2
          go_wp2_with fail
          go_at_call 6
          refine HLV.out _ GA.out _ ?_
          intro w9 hg9
          have G9 := Lib.hid (GA.out.tr hg9)
          clear hg9
          go_wp2
          exact HR.out _ G9.out
        | true =>
          rw [hry] at RY
          obtain ⟨y0, y1, y2⟩ := Fr.at_ BY.out
          go_wp2_with fail
          go_at_call 5
          refine RY.out _ _ ?_
          intro w5 hg5
          have FZ := Lib.hid (grow_blk hg5 FZ.out)
          have BX := Lib.hid (grow_blk hg5 BX.out)
          have BY := Lib.hid (grow_blk hg5 BY.out)
          have GA := Lib.hid (GA.out.tr hg5)
          clear hg5 y0 y1 y2 RX RY t1
          have TX := Lib.hid fun W (R : Ending → World → Prop) hR => rat_q fx W hfx (by have := (Fr.right_iff hrx).2; omega) (R := R) hR
          have TY := Lib.hid fun W (R : Ending → World → Prop) hR => rat_q fy W hfy (by have := (Fr.right_iff hry).2; omega) (R := R) hR
          clear hrx hry hfx hfy
          obtain ⟨LE, SOK⟩ := top_far ZR.out HIN.out
          have LE := Lib.hid LE
          have SOK := Lib.hid SOK
          have SC := Lib.hid fun (p : Pt) (hp : p ∈ l) W (R : Ending → World → Prop) hR => rscale28_any z e p W ZR.out (HIN.out p hp).1 (HIN.out p hp).2 (R := R) hR
          have AT := Lib.hid fun (p : Pt) (hp : p ∈ l) W (R : Ending → World → Prop) hR => at24_any p W (HOK.out p hp) (R := R) hR
          go_wp2
          go_loopw [23, 21, 22] (fun i sv av wr => ∃ (k : Nat) (ls : List Pt) (m : List PV), k ≤ l.length ∧ i = .int .i64 k ∧ Hid (ls = (l.take k).map (scl z e)) ∧ Hid (m.map PV.q = (l.take k).map Pt.pq) ∧ Hid (WSt w5 sv av ls m wr)) (fun i _ _ _ => l.length - (intOf i).toNat)
          case atStart => exact ⟨0, [], [], Nat.zero_le _, rfl, rfl, rfl, ⟨Grow.refl _, World.ownsRow_nil _ _ _ _, World.ownsRow_nil _ _ _ _, fun k hk => by simp [Value.ownBlock] at hk, fun p hp => by simp at hp⟩⟩
          case round =>
            obtain ⟨k, ls, m, hk, rfl, hs, hm, hst⟩ := hrel
            obtain ⟨aS, cS, rfl⟩ := own_slice hst.out.os
            obtain ⟨ap, cp, rfl⟩ := own_slice hst.out.oa
            by_cases hlt : k < l.length
            · obtain ⟨b, o, rfl, hS, hc⟩ := K4.out (by omega)
              have e0 := fun W (h : Grow w W) => flat_cells Pt.cells_len h hS hc hlt
              have E0 : Hid (∀ W, Grow w W → W.cell? ⟨b, o + k * 2, none⟩ = some (.int .i64 (l[k]'hlt).x) ∧ W.cell? ⟨b, o + k * 2 + 1, none⟩ = some (.int .i64 (l[k]'hlt).y)) := fun W h => ⟨e0 W h 0 _ rfl, e0 W h 1 _ rfl⟩
              have SC1 := Lib.hid (SC.out _ (List.getElem_mem hlt))
              have AT1 := Lib.hid (AT.out _ (List.getElem_mem hlt))
              have TS : Hid (ls ++ [scl z e (l[k]'hlt)] = (l.take (k + 1)).map (scl z e)) := by show _ = _; rw [hs.out, List.take_succ_eq_append_getElem hlt, List.map_append, List.map_cons, List.map_nil]
              have MS : Hid (∀ r : PV, r.q = (l[k]'hlt).pq → (m ++ [r]).map PV.q = (l.take (k + 1)).map Pt.pq) := fun r hr => by rw [List.map_append, hm.out, List.take_succ_eq_append_getElem hlt, List.map_append, List.map_cons, List.map_nil, hr]; rfl
              have LL : Hid (ls.length ≤ 20) := by show _ ≤ _; have := congrArg List.length hs.out; rw [List.length_map, List.length_take] at this; have := LN.out; omega
              have ML : Hid (m.length ≤ 20) := by show _ ≤ _; have := congrArg List.length hm.out; rw [List.length_map, List.length_map, List.length_take] at this; have := LN.out; omega
              have LT : l.length < 2 ^ 62 := by have := LN.out; omega
              have ST := Lib.hid (hst.out.tr (Grow.refl wr).dr)
              clear e0 hc hs hm hst
              generalize (l[k]'hlt) = p at *
              obtain ⟨px, py⟩ := p
              generalize scl z e ⟨px, py⟩ = q at *
              obtain ⟨qx, qy⟩ := q
              unfold Pt.cells at SC1 AT1
              dsimp only at SC1 AT1 E0
              go_upto_region 11 with fail
              refine wp_region_lexG (Grow w5) (ST.out.gr) [0, 1, 2, 3, 4, 5, 6, 7, 8, 9, 10] (by kernel_rfl) (by kernel_rfl) rfl (by kernel_rfl) (by intro c a d v w h; cases d <;> exact h) ?_
              generalize wr.drew = wd at *
              iterate 5 (refine lexg_take (v := ?_) rfl ?_ ?_ ?_; rotate_left; (rfl); (intro W hW; obtain ⟨y0, y1⟩ := E0.out W (GA.out.tr hW); (try clear hW); go_simp; with_reducible rfl); try simp only [Act.put, List.setIfInBounds_toArray, List.set_cons_zero, List.set_cons_succ])
              refine lexg_take (v := .agg z.cells.toArray) rfl ?_ ?_ ?_; (rfl); (intro W hW; exact exec_load_row 29 _ rfl z0 rfl 29 _ _ _ (grow_blk hW FZ.out) rfl Tryz.underlying29 (by kernel_rfl))
              try simp only [Act.put, List.setIfInBounds_toArray, List.set_cons_zero, List.set_cons_succ]
              iterate 1 (refine lexg_take (v := ?_) rfl ?_ ?_ ?_; rotate_left; (rfl); (intro W hW; (try clear hW); go_simp; with_reducible rfl); try simp only [Act.put, List.setIfInBounds_toArray, List.set_cons_zero, List.set_cons_succ])
              refine lexg_turn rfl rfl rfl ?_; intro K hK; go_simp; go_at_call 7; refine SC1.out _ _ ?_
              intro w6 hg6
              have ST := Lib.hid (ST.out.tr hg6)
              refine hK.out _ _ ST.out.gr ?_
              clear hK hg6
              try simp only [Act.put, List.setIfInBounds_toArray, List.set_cons_zero, List.set_cons_succ]
              refine lexg_turn rfl rfl rfl ?_; intro K hK; go_simp; refine hK.out _ _ (ST.out.gr.al _) ?_; clear hK; try simp only [Act.put, List.setIfInBounds_toArray, List.set_cons_zero, List.set_cons_succ]
              refine lexg_turn rfl rfl rfl ?_; intro K hK; refine oper_new3 _ _ rfl el_pt ST.out.os rfl 1 _ rfl _ rfl (by decide) rfl (by simp [Value.oneCell']) (by have := LL.out; omega) ST.out.gr.size ?_
              intro v7 w7 hO7 hgr7 hb7
              have ST := Lib.hid (ST.out.ps (ls' := ls ++ [⟨qx, qy⟩]) hgr7 (own_eq hO7 (by simp) (by rw [Pts_app]; rfl)) (hb7.elim .inl fun h => .inr ⟨_, h, Nat.le_succ _⟩))
              obtain ⟨as7, cs7, rfl⟩ := own_slice hO7
              refine hK.out _ _ ST.out.gr ?_
              clear hK hO7 hgr7 hb7 SC1
              try simp only [Act.put, List.setIfInBounds_toArray, List.set_cons_zero, List.set_cons_succ]
              iterate 1 (refine lexg_take (v := ?_) rfl ?_ ?_ ?_; rotate_left; (rfl); (intro W hW; (try clear hW); go_simp; with_reducible rfl); try simp only [Act.put, List.setIfInBounds_toArray, List.set_cons_zero, List.set_cons_succ])
              refine lex_nil ?_
              obtain ⟨y0, y1⟩ := E0.out w7 (GA.out.tr ST.out.gr)
              go_wp2_with fail
              go_at_call 8
              refine AT1.out _ _ ?_
              intro r w8 hg8 hq hr
              have lr : r.cells.length = 8 := rfl
              have RX := Lib.hid ((hr.into (T := OffB (.slice as7 (ls.length + 1) cs7) (.slice ap m.length cp)) fun b hb => ST.out.off hb).up (k' := 9) (by omega))
              have ST := Lib.hid (ST.out.tr hg8)
              have MQ := Lib.hid (MS.out r hq)
              clear hg8 hq hr y0 y1 AT1 MS E0
              go_upto_region 10 with (at_builtin; refine wpList_newAt rfl _ _ rfl el_pl (own_grow ST.out.oa (Grow.refl _)) rfl 1 _ rfl _ rfl (by decide) rfl (by simp [PV.cells, Value.oneCell']) (by have := ML.out; omega) ST.out.gr ⟨Nat.le_refl _, ST.out.gr.size⟩ ?_; intro v9 w9 hO9 hg9 hgr9 hb9)
              simp only [fold_cells] at hO9
              have STF := Lib.hid (ST.out.pa (m' := m ++ [r]) hgr9 (own_eq hO9 (by simp) (by simp [PVs])) (hb9.elim .inl fun h => .inr ⟨_, h, Nat.le_succ _⟩) (fun y hy => by
                rcases List.mem_append.1 hy with h | h
                · exact ST.out.vo y h
                · rw [List.mem_singleton.1 h]; exact RX.out))
              clear hO9 hg9 hgr9 hb9 ST RX
              go_wp2
              go_roundw
              case rel => exact ⟨k + 1, ls ++ [⟨qx, qy⟩], m ++ [r], by omega, by go_num, TS, MQ, STF⟩
              case measure => simp [intOf]; omega
            · obtain rfl : k = l.length := by omega
              have L0 : Hid (ls = l.map (scl z e)) := by show _ = _; rw [hs.out, List.take_length]
              have M0 : Hid (m.map PV.q = l.map Pt.pq) := by show _ = _; rw [hm.out, List.take_length]
              have ST := Lib.hid hst.out
              have LL : Hid (ls.length ≤ 20) := by show _ ≤ _; have := congrArg List.length L0.out; rw [List.length_map] at this; have := LN.out; omega
              have ML : Hid (m.length ≤ 20) := by show _ ≤ _; have := congrArg List.length M0.out; rw [List.length_map, List.length_map] at this; have := LN.out; omega
              clear hs hm hst
              generalize wr = wl at *
              have LEL : Hid (lineE ls (-z.b) (e + z.b) = 0) := by show _ = _; rw [L0.out]; exact LE.out
              have SOL : Hid (∀ p ∈ ls, p.ok) := by show ∀ p ∈ ls, p.ok; rw [L0.out]; exact SOK.out
              obtain ⟨-, -, -, -, zb0, zbe, -⟩ := zright_iff ZR.out
              have HI : Hid (I64 (-z.b) ∧ I64 (e + z.b)) := ⟨⟨by omega, by omega⟩, by omega, by omega⟩
              have RSL := Lib.hid (Rd.own_lt ST.out.os)
              have CA := Lib.hid fun (R : Ending → World → Prop) hR => clip25_any ls (-z.b) (e + z.b) _ _ wl RSL.out (by have := LL.out; omega) SOL.out HI.out.1 HI.out.2 (R := R) hR
              have r1 : ringR ls (-z.b) (e + z.b) = ringS ls (-z.b) (e + z.b) := by unfold ringR; rw [if_pos LEL.out]
              rw [LEL.out, r1] at CA
              have RLB : Hid ((ringS ls (-z.b) (e + z.b)).length ≤ 1000) := by show _ ≤ _; have := (ringTo_ok HI.out.1 HI.out.2 SOL.out 4 (by decide)).2; have := LL.out; unfold ringS; rw [List.length_map]; omega
              have SI := Lib.hid (ring_law LEL.out).2
              have RQ := Lib.hid (ring_law LEL.out).1
              generalize ringS ls (-z.b) (e + z.b) = ra at *
              clear r1 SC AT SOK LE SOL LEL RSL
              have FZ := Lib.hid (grow_blk ST.out.gr FZ.out)
              have BX := Lib.hid (grow_blk ST.out.gr BX.out)
              have BY := Lib.hid (grow_blk ST.out.gr BY.out)
              have GA := Lib.hid (GA.out.tr ST.out.gr)
              have q3 := ZmT.at_ FZ.out 3
              simp only [Zm.cells, List.getElem?_cons_zero, List.getElem?_cons_succ] at q3
              go_wp2_with fail
              go_at_call 9
              refine CA.out _ ?_
              intro r6 w6 hO6 hg6
              have WS := Lib.hid (ST.out.tr hg6)
              have FZ := Lib.hid (grow_blk hg6 FZ.out)
              have BX := Lib.hid (grow_blk hg6 BX.out)
              have BY := Lib.hid (grow_blk hg6 BY.out)
              have GA := Lib.hid (GA.out.tr hg6)
              obtain ⟨A6, c6, rfl⟩ := own_slice hO6
              have O6 := Lib.hid (Rd.own_lt hO6)
              clear hO6 hg6 CA ST q3
              obtain ⟨_, A', c', hv, -, p2, -, p4⟩ := O6.out
              injection hv with e1 e2 e3
              clear e2
              subst e1 e3
              unfold maxLen at p2
              have P4 := Lib.hid p4
              have RL := RLB.out
              clear p4 O6
              go_wp2_with fail
              go_at_call 10
              refine codeT_any _ _ ?_
              go_wp2
              go_loopw [27, 26] (fun i p wr => ∃ (k : Nat) (m2 : List PV), k ≤ ra.length ∧ i = .int .i64 k ∧ Hid (m2.map PV.q = (ra.take k).map Spot.pq) ∧ Hid (HSt w6 p (.slice none 0 0) m2 [] 9 wr)) (fun i _ _ => ra.length - (intOf i).toNat)
              case atStart => exact ⟨0, [], Nat.zero_le _, rfl, rfl, ⟨Grow.refl _, World.ownsRow_nil _ _ _ _, World.ownsRow_nil _ _ _ _, fun k hk => by simp [Value.ownBlock] at hk, fun p hp => by simp at hp, fun p hp => by simp at hp⟩⟩
              case round =>
                obtain ⟨k, m2, hk, rfl, hm, hst⟩ := hrel
                obtain ⟨ap2, cp2, rfl⟩ := own_slice hst.out.oo
                by_cases hlt : k < ra.length
                · obtain ⟨bl, o, rfl, hS, hc⟩ := P4.out (by omega)
                  have e0 := fun W (h : Grow w6 W) => flat_cells Spot.cells_len h hS hc hlt
                  have ML2 : Hid (m2.length ≤ 1000) := by show _ ≤ _; have := congrArg List.length hm.out; rw [List.length_map, List.length_map, List.length_take] at this; omega
                  have MS : Hid (∀ r : PV, r.q = (ra[k]'hlt).pq → (m2 ++ [r]).map PV.q = (ra.take (k + 1)).map Spot.pq) := fun r hr => by rw [List.map_append, hm.out, List.take_succ_eq_append_getElem hlt, List.map_append, List.map_cons, List.map_nil, hr]; rfl
                  have PT := SI.out _ (List.getElem_mem hlt)
                  have PO := rt_ok25 PT
                  have RXX := Lib.hid fun W (R : Ending → World → Prop) hR => rat_q (ra[k]'hlt).x W PO.1 (by have := (Fr.right_iff PT.1).2; omega) (R := R) hR
                  have RYY := Lib.hid fun W (R : Ending → World → Prop) hR => rat_q (ra[k]'hlt).y W PO.2 (by have := (Fr.right_iff PT.2).2; omega) (R := R) hR
                  have E0 : Hid (∀ W, Grow w6 W → W.cell? ⟨bl, o + k * 6, none⟩ = some (.int .i64 (ra[k]'hlt).x.q) ∧ W.cell? ⟨bl, o + k * 6 + 1, none⟩ = some (.int .u64 ((ra[k]'hlt).x.r : Nat)) ∧ W.cell? ⟨bl, o + k * 6 + 2, none⟩ = some (.int .u64 ((ra[k]'hlt).x.d : Nat)) ∧ W.cell? ⟨bl, o + k * 6 + 3, none⟩ = some (.int .i64 (ra[k]'hlt).y.q) ∧ W.cell? ⟨bl, o + k * 6 + 4, none⟩ = some (.int .u64 ((ra[k]'hlt).y.r : Nat)) ∧ W.cell? ⟨bl, o + k * 6 + 5, none⟩ = some (.int .u64 ((ra[k]'hlt).y.d : Nat))) := fun W h => ⟨e0 W h 0 _ rfl, e0 W h 1 _ rfl, e0 W h 2 _ rfl, e0 W h 3 _ rfl, e0 W h 4 _ rfl, e0 W h 5 _ rfl⟩
                  have QE : Hid ((ra[k]'hlt).pq = ⟨(ra[k]'hlt).x.val, (ra[k]'hlt).y.val⟩) := rfl
                  have T0 : Hid (¬ ra = []) := by rintro rfl; simp at hlt
                  have ST := Lib.hid hst.out
                  have K2 : ra.length < 2 ^ 62 := by omega
                  clear e0 hc PO PT hm hst
                  generalize (ra[k]'hlt) = p at *
                  obtain ⟨⟨q1, r1, d1⟩, ⟨q2, r2, d2⟩⟩ := p
                  unfold Fr.cells at RXX RYY
                  dsimp only at E0 RXX RYY QE
                  go_upto_region 20 with fail
                  have GD := Lib.hid ((Grow.refl wr).dr)
                  have ST := Lib.hid (ST.out.tr GD.out)
                  clear GD
                  refine wp_region_lexT (Grow wr.drew) ((Grow.refl _)) 15 [0, 1, 2, 3, 4, 5, 7, 8, 9, 10, 11, 6, 12, 13, 14] (by kernel_rfl) (by kernel_rfl) (by intro c a d v w h; cases d <;> exact h) ?_
                  generalize wr.drew = wb at *
                  iterate 11 (apply lext_take; exact rfl; exact rfl; (intro W hW; obtain ⟨z0', z1', z2', z3', z4', z5'⟩ := E0.out W (ST.out.gr.tr hW); have t0 := T0.out; (try clear hW); go_simp; with_reducible rfl); try simp only [Act.put, List.setIfInBounds_toArray, List.set_cons_zero, List.set_cons_succ])
                  apply lext_turn; exact rfl; exact rfl; exact rfl; intro K hK; go_simp; go_at_call 11; refine RXX.out _ _ ?_; intro rx w7 hg1 hq1 hr1
                  have G1 := Lib.hid hg1
                  have VX := Lib.hid (hr1.into (T := OffB (.slice ap2 m2.length cp2) (.slice none 0 0)) fun b hb => ST.out.off hb)
                  have QX := Lib.hid hq1
                  obtain ⟨⟨a1, a2, a3, a4⟩, ⟨a5, a6, a7, a8⟩, aq⟩ := rx
                  unfold RV.cells
                  dsimp only at QX ⊢
                  refine hK.out _ _ G1.out ?_
                  clear hK hg1 hq1 hr1 RXX
                  try simp only [Act.put, List.setIfInBounds_toArray, List.set_cons_zero, List.set_cons_succ]
                  apply lext_turn; exact rfl; exact rfl; exact rfl; intro K hK; go_simp; go_at_call 11; refine RYY.out _ _ ?_; intro ry w8 hg2 hq2 hr2
                  have G2 := Lib.hid (G1.out.tr hg2)
                  have VX := Lib.hid (VX.out.gr hg2)
                  have VY := Lib.hid (hr2.into (T := OffB (.slice ap2 m2.length cp2) (.slice none 0 0)) fun b hb => ST.out.off (by have := G1.out.size; omega))
                  have QY := Lib.hid hq2
                  obtain ⟨⟨b1, b2, b3, b4⟩, ⟨b5, b6, b7, b8⟩, bq⟩ := ry
                  unfold RV.cells
                  dsimp only at QY ⊢
                  refine hK.out _ _ G2.out ?_
                  clear hK hg2 hq2 hr2 RYY E0 G1
                  try simp only [Act.put, List.setIfInBounds_toArray, List.set_cons_zero, List.set_cons_succ]
                  iterate 1 (apply lext_take; exact rfl; exact rfl; (intro W hW; (try clear hW); go_simp; with_reducible rfl); try simp only [Act.put, List.setIfInBounds_toArray, List.set_cons_zero, List.set_cons_succ])
                  apply lext_turn; exact rfl; exact rfl; exact rfl; intro K hK; go_simp; refine hK.out _ _ ((G2.out.al _)) ?_; clear hK; try simp only [Act.put, List.setIfInBounds_toArray, List.set_cons_zero, List.set_cons_succ]
                  refine lext_nil ?_
                  simp only [List.drop_succ_cons, List.drop_zero]
                  have RL9 := Lib.hid (Rd.lit w8 #[.bool a1, .slice a2 a3 a4, .bool a5, .slice a6 a7 a8, .bool b1, .slice b2 b3 b4, .bool b5, .slice b6 b7 b8] 44 1 (by decide) rfl : Rd _ _ 8 _ 1 [.bool a1, .slice a2 a3 a4, .bool a5, .slice a6 a7 a8, .bool b1, .slice b2 b3 b4, .bool b5, .slice b6 b7 b8])
                  have GL : Grow w8 (w8.alloc (.cells #[.bool a1, .slice a2 a3 a4, .bool a5, .slice a6 a7 a8, .bool b1, .slice b2 b3 b4, .bool b5, .slice b6 b7 b8] 44)) := (Grow.refl _).al _
                  have ST := Lib.hid ((ST.out.tr G2.out).tr GL)
                  have VX := Lib.hid (VX.out.gr GL)
                  have VY := Lib.hid (VY.out.gr GL)
                  have MQ := Lib.hid (MS.out (⟨(⟨⟨a1, a2, a3, a4⟩, ⟨a5, a6, a7, a8⟩, aq⟩ : RV), (⟨⟨b1, b2, b3, b4⟩, ⟨b5, b6, b7, b8⟩, bq⟩ : RV)⟩ : PV) (by rw [QE.out, ← QX.out, ← QY.out]; rfl))
                  clear MS QE QX QY GL G2
                  generalize w8.alloc (.cells #[.bool a1, .slice a2 a3 a4, .bool a5, .slice a6 a7 a8, .bool b1, .slice b2 b3 b4, .bool b5, .slice b6 b7 b8] 44) = w9 at *
                  go_upto_region 19 with (at_builtin; refine wpList_app rfl _ _ rfl el_pl ST.out.oo rfl RL9.out rfl (by simp [Value.oneCell']) (by have := ML2.out; omega) ST.out.gr.size ?_; intro v10 w10 hO9 hgr9 hb9)
                  have STF := Lib.hid (ST.out.pout (out' := m2 ++ [(⟨(⟨⟨a1, a2, a3, a4⟩, ⟨a5, a6, a7, a8⟩, aq⟩ : RV), (⟨⟨b1, b2, b3, b4⟩, ⟨b5, b6, b7, b8⟩, bq⟩ : RV)⟩ : PV)]) hgr9 (own_eq hO9 (by simp) (show PVs m2 ++ _ = _ by rw [PVs_app]; rfl)) (hb9.elim .inl fun h => .inr ⟨_, h, Nat.le_refl _⟩) (fun y hy => by
                    rcases List.mem_append.1 hy with h | h
                    · exact ST.out.vo y h
                    · rw [List.mem_singleton.1 h]; exact ⟨VX.out, VY.out⟩))
                  clear hO9 hgr9 hb9 ST VX VY RL9
                  go_wp2
                  go_roundw
                  case rel => exact ⟨k + 1, m2 ++ [_], by omega, by go_num, MQ.out, STF.out⟩
                  case measure => simp [intOf]; omega
                · obtain rfl : k = ra.length := by omega
                  have Q2 : Hid (m2.map PV.q = clip25Q ls (-z.b) (e + z.b)) := by show _ = _; rw [hm.out, List.take_length, RQ.out]
                  have L2 : Hid (m2.length ≤ 5000) := by show _ ≤ _; have := congrArg List.length hm.out; rw [List.length_map, List.length_map, List.length_take] at this; omega
                  have HS := Lib.hid hst.out
                  have WS := Lib.hid (WS.out.tr HS.out.gr)
                  have FZ := Lib.hid (grow_blk HS.out.gr FZ.out)
                  have BX := Lib.hid (grow_blk HS.out.gr BX.out)
                  have BY := Lib.hid (grow_blk HS.out.gr BY.out)
                  have GA := Lib.hid (GA.out.tr HS.out.gr)
                  clear hm hst P4 RQ SI RLB RL p2
                  generalize wr = wb at *
                  go_upto_region 21 with fail
                  refine wp_region_free1 ⟨5, some 28, 44, zeroPV.cells.toArray⟩ 6 [0, 2, 1, 3, 4] (by kernel_rfl) (by kernel_rfl) ⟨_, rfl, rfl, rfl, fun a W K h => by go_simp; exact h⟩ (by intro c a d v w h; cases d <;> exact h) rfl ?_
                  have GD := (Grow.refl wb).dr
                  have FZ := Lib.hid (grow_blk GD FZ.out)
                  have BX := Lib.hid (grow_blk GD BX.out)
                  have BY := Lib.hid (grow_blk GD BY.out)
                  have GA := Lib.hid (GA.out.tr GD)
                  have HS := Lib.hid (HS.out.tr GD)
                  have WS := Lib.hid (WS.out.tr GD)
                  have GB : Hid (Grow wb.drew wb.drew) := Grow.refl _
                  have EW : Hid (wb.drew.heap.size = wb.heap.size) := rfl
                  clear GD
                  generalize wb.drew = wd at *
                  apply fr1_take; exact rfl; (simp); (intro x1; exact rfl)
                  · intro x1 W' hW
                    exact exec_load_row 27 _ rfl w.heap.size rfl 27 _ _ _ (grow_blk hW BX.out) rfl Tryz.underlying27 (by kernel_rfl)
                  simp only [Act.put, List.setIfInBounds_toArray, List.set_cons_zero, List.set_cons_succ]
                  apply fr1_take; exact rfl; (simp); (intro x1; exact rfl)
                  · intro x1 W' hW
                    exact exec_load_row 27 _ rfl (w.heap.size + 1) rfl 27 _ _ _ (grow_blk hW BY.out) rfl Tryz.underlying27 (by kernel_rfl)
                  simp only [Act.put, List.setIfInBounds_toArray, List.set_cons_zero, List.set_cons_succ]
                  apply fr1_turn; exact rfl; exact rfl; (simp); (intro x1; exact rfl)
                  intro x1 W5 hW K hK
                  simp only [Act.put, List.setIfInBounds_toArray, List.set_cons_zero, List.set_cons_succ]
                  go_simp
                  go_at_call 11
                  refine TX.out _ _ ?_
                  intro rx w7 hg hq1 hr1
                  have VX := Lib.hid (hr1.into (T := fun _ => True) fun _ _ => trivial)
                  have QX := Lib.hid hq1
                  clear hq1 hr1
                  have GB := Lib.hid (GB.out.tr (hW.tr hg))
                  refine hK.out _ _ hg ?_
                  clear hK hW hg
                  simp only [Act.put, List.setIfInBounds_toArray, List.set_cons_zero, List.set_cons_succ]
                  apply fr1_turn; exact rfl; exact rfl; (simp); (intro x1; exact rfl)
                  intro x1 W5 hW K hK
                  simp only [Act.put, List.setIfInBounds_toArray, List.set_cons_zero, List.set_cons_succ]
                  go_simp
                  go_at_call 11
                  refine TY.out _ _ ?_
                  intro ry w8 hg hq1 hr1
                  have VX := Lib.hid (VX.out.gr (hW.tr hg))
                  have VY := Lib.hid (hr1.into (T := fun _ => True) fun _ _ => trivial)
                  have QY := Lib.hid hq1
                  clear hq1 hr1
                  have GB := Lib.hid (GB.out.tr (hW.tr hg))
                  refine hK.out _ _ hg ?_
                  clear hK hW hg
                  simp only [Act.put, List.setIfInBounds_toArray, List.set_cons_zero, List.set_cons_succ]
                  obtain ⟨pl, hpl⟩ : ∃ pl : PV, pl = ⟨rx, ry⟩ := ⟨_, rfl⟩
                  have PX : Hid (pl.x = rx) := by rw [hpl]; rfl
                  have PY : Hid (pl.y = ry) := by rw [hpl]; rfl
                  apply fr1_take (v := .agg pl.cells.toArray); exact rfl; (simp); (intro x1; exact rfl)
                  · intro x1 W' hW
                    clear hW
                    subst hpl
                    obtain ⟨⟨a1, a2, a3, a4⟩, ⟨a5, a6, a7, a8⟩, aq⟩ := rx
                    obtain ⟨⟨b1, b2, b3, b4⟩, ⟨b5, b6, b7, b8⟩, bq⟩ := ry
                    unfold RV.cells PV.cells
                    simp only [Act.put, List.setIfInBounds_toArray, List.set_cons_zero, List.set_cons_succ]
                    go_simp
                  simp only [Act.put, List.setIfInBounds_toArray, List.set_cons_zero, List.set_cons_succ]
                  refine fr1_nil ?_
                  intro pb V hV hb
                  have VX := Lib.hid (VX.out.gr hV)
                  have VY := Lib.hid (VY.out.gr hV)
                  have GV := Lib.hid (GB.out.tr hV)
                  have FP0 : Hid (V.heap[pb]? = some (.cells zeroPV.cells.toArray 44 (0, 0))) := hb.1
                  have LB : Hid (wd.heap.size ≤ pb) := by show _ ≤ _; rw [EW.out]; exact hb.2.1
                  clear hV hb GB hpl TX TY
                  unfold ptrTo
                  simp only [Act.put, List.setIfInBounds_toArray, List.set_cons_zero, List.set_cons_succ, List.drop_succ_cons, List.drop_zero]
                  have BN : BoxN V pb := ⟨_, _, _, FP0.out, PV.noint _⟩
                  have VX : Hid (rx.rd (V.setRow pb pl.cells.toArray) (fun _ => True) 9) := VX.out.row BN _
                  have VY : Hid (ry.rd (V.setRow pb pl.cells.toArray) (fun _ => True) 9) := VY.out.row BN _
                  have GN : Hid (Grow wd (V.setRow pb pl.cells.toArray)) := GV.out.row LB.out _
                  have FP : Hid ((V.setRow pb pl.cells.toArray).heap[pb]? = some (.cells pl.cells.toArray 44 (0, 0))) := setRow_heap _ _ _ _ _ _ FP0.out
                  go_upto_region 22 with (refine wpList_store_row rfl 44 _ _ rfl pb pl.cells.toArray rfl rfl 44 _ FP0.out (by kernel_rfl) rfl (PV.one _) ?_)
                  clear FP0 BN LB GV EW
                  generalize V.setRow pb pl.cells.toArray = w10 at *
                  have VP : Hid (pl.rd w10 (fun _ => True) 9) := ⟨by rw [PX.out]; exact VX.out, by rw [PY.out]; exact VY.out⟩
                  have QP : Hid (pl.q = ⟨fx.val, fy.val⟩) := by show _ = _; unfold PV.q; rw [PX.out, PY.out, QX.out, QY.out]
                  have FZ := Lib.hid (grow_blk GN.out FZ.out)
                  have BX := Lib.hid (grow_blk GN.out BX.out)
                  have BY := Lib.hid (grow_blk GN.out BY.out)
                  have GA := Lib.hid (GA.out.tr GN.out)
                  have HS := Lib.hid (HS.out.tr GN.out)
                  have WS := Lib.hid (WS.out.tr GN.out)
                  clear VX VY PX PY QX QY GN BX BY
                  refine wp_region_free2 ⟨9, some 29, 42, zeroRV.cells.toArray⟩ ⟨10, some 30, 42, zeroRV.cells.toArray⟩ 11 [0, 1, 2, 4, 5, 6, 7, 3, 8] (by kernel_rfl) (by kernel_rfl) (by decide) ⟨_, rfl, rfl, rfl, fun a W K h => by go_simp; exact h⟩ ⟨_, rfl, rfl, rfl, fun a W K h => by go_simp; exact h⟩ (by intro c a d v w h; cases d <;> exact h) rfl rfl ?_
                  have GD := (Grow.refl w10).dr
                  have FZ := Lib.hid (grow_blk GD FZ.out)
                  have GA := Lib.hid (GA.out.tr GD)
                  have HS := Lib.hid (HS.out.tr GD)
                  have WS := Lib.hid (WS.out.tr GD)
                  have FP := Lib.hid (grow_blk GD FP.out)
                  have VP := Lib.hid (VP.out.gr GD)
                  have EW : Hid (w10.drew.heap.size = w10.heap.size) := rfl
                  clear GD
                  generalize w10.drew = w11 at *
                  have dn1 : IntKind.i64.wrap (-z.b) = -z.b := IntWalk.i64_in _ (by omega)
                  have dn2 : IntKind.i64.wrap (e + z.b) = e + z.b := IntWalk.i64_in _ (by omega)
                  iterate 7
                    apply fr_take; exact rfl; (simp); (simp); (intro x1 x2; exact rfl)
                    · intro x1 x2 W' hW
                      have q3 := ZmT.at_ (grow_blk hW FZ.out) 3
                      simp only [Zm.cells, List.getElem?_cons_zero, List.getElem?_cons_succ] at q3
                      clear hW
                      simp only [FA.put2, Act.put, List.setIfInBounds_toArray, List.set_cons_zero, List.set_cons_succ]
                      go_simp
                      with_reducible rfl
                    simp only [Act.put, List.setIfInBounds_toArray, List.set_cons_zero, List.set_cons_succ]
                  apply fr_turn; exact rfl; exact rfl; (simp); (simp); (intro x1 x2; exact rfl)
                  intro x1 x2 W5 hW K hK
                  simp only [FA.put2, Act.put, List.setIfInBounds_toArray, List.set_cons_zero, List.set_cons_succ]
                  go_simp
                  go_at_call 12
                  refine whole_q (-z.b) _ HI.out.1 ?_
                  intro rlo w12 hg hq1 hr1
                  have H1 := Lib.hid (hW.tr hg)
                  have VL := Lib.hid (hr1.into (T := fun _ => True) fun _ _ => trivial)
                  have QL := Lib.hid hq1
                  refine hK.out _ _ hg ?_
                  clear hK hW hg hq1 hr1
                  simp only [Act.put, List.setIfInBounds_toArray, List.set_cons_zero, List.set_cons_succ]
                  apply fr_turn; exact rfl; exact rfl; (simp); (simp); (intro x1 x2; exact rfl)
                  intro x1 x2 W5 hW K hK
                  simp only [FA.put2, Act.put, List.setIfInBounds_toArray, List.set_cons_zero, List.set_cons_succ]
                  go_simp
                  go_at_call 12
                  refine whole_q (e + z.b) _ HI.out.2 ?_
                  intro rhi w13 hg hq1 hr1
                  have H1 := Lib.hid (H1.out.tr (hW.tr hg))
                  have VL := Lib.hid (VL.out.gr (hW.tr hg))
                  have VH := Lib.hid (hr1.into (T := fun _ => True) fun _ _ => trivial)
                  have QH := Lib.hid hq1
                  refine hK.out _ _ hg ?_
                  clear hK hW hg hq1 hr1
                  simp only [Act.put, List.setIfInBounds_toArray, List.set_cons_zero, List.set_cons_succ]
                  clear dn1 dn2
                  refine fr_nil ?_
                  intro c1 c2 V2 hV hne hc1 hc2
                  have H1 := Lib.hid (H1.out.tr hV)
                  have VL := Lib.hid (VL.out.gr hV)
                  have VH := Lib.hid (VH.out.gr hV)
                  have FC1 : Hid (V2.heap[c1]? = some (.cells zeroRV.cells.toArray 42 (0, 0))) := hc1.1
                  have FC2 : Hid (V2.heap[c2]? = some (.cells zeroRV.cells.toArray 42 (0, 0))) := hc2.1
                  have N1 : BoxN V2 c1 := ⟨_, _, _, FC1.out, RV.noint _⟩
                  have N2 : BoxN V2 c2 := ⟨_, _, _, FC2.out, RV.noint _⟩
                  have NE : Hid (c1 ≠ c2 ∧ c2 ≠ c1) := ⟨hne, fun e => hne e.symm⟩
                  have L1 : w11.heap.size ≤ c1 := by rw [EW.out]; exact hc1.2.1
                  have L2' : w11.heap.size ≤ c2 := by rw [EW.out]; exact hc2.2.1
                  have G2 : Grow w11 ((V2.setRow c1 rlo.cells.toArray).setRow c2 rhi.cells.toArray) := (H1.out.row L1 _).row L2' _
                  have H2 : Hid ((V2.setRow c1 rlo.cells.toArray).heap[c2]? = some (.cells zeroRV.cells.toArray 42 (0, 0))) := (setRow_other _ _ _ _ NE.out.2).trans FC2.out
                  unfold ptrTo FA.put2
                  simp only [Act.put, List.setIfInBounds_toArray, List.set_cons_zero, List.set_cons_succ, List.drop_succ_cons, List.drop_zero]
                  go_upto_region 23 with (first | (refine wpList_store_row rfl 42 _ _ rfl c1 rlo.cells.toArray rfl rfl 42 _ FC1.out (by kernel_rfl) rfl (RV.one _) ?_) | (refine wpList_store_row rfl 42 _ _ rfl c2 rhi.cells.toArray rfl rfl 42 _ H2.out (by kernel_rfl) rfl (RV.one _) ?_))
                  have VL : Hid (rlo.rd ((V2.setRow c1 rlo.cells.toArray).setRow c2 rhi.cells.toArray) (fun _ => True) 4) := (VL.out.row N1 _).row (N2.row NE.out.2 _) _
                  have VH : Hid (rhi.rd ((V2.setRow c1 rlo.cells.toArray).setRow c2 rhi.cells.toArray) (fun _ => True) 4) := (VH.out.row N1 _).row (N2.row NE.out.2 _) _
                  have FH := Lib.hid (setRow_heap _ c2 _ rhi.cells.toArray _ _ H2.out)
                  have FL := Lib.hid ((setRow_other _ c2 c1 rhi.cells.toArray NE.out.1).trans (setRow_heap _ c1 _ rlo.cells.toArray _ _ FC1.out))
                  have FZ := Lib.hid (grow_blk G2 FZ.out)
                  have GA := Lib.hid (GA.out.tr G2)
                  have HS := Lib.hid (HS.out.tr G2)
                  have WS := Lib.hid (WS.out.tr G2)
                  have FP := Lib.hid (grow_blk G2 FP.out)
                  have VP := Lib.hid (VP.out.gr G2)
                  clear H1 H2 FC1 FC2 N1 N2 NE L1 L2' hV hne hc1 hc2 EW G2
                  generalize (V2.setRow c1 rlo.cells.toArray).setRow c2 rhi.cells.toArray = w14 at *
                  obtain ⟨n1, f1, hW⟩ : ∃ n f, windQ (clip25Q ls (-z.b) (e + z.b)) ⟨fx.val, fy.val⟩ = (n, f) := ⟨_, _, rfl⟩
                  have HW := Lib.hid hW
                  clear hW
                  have OLX := Lib.hid fun W (h : Grow w14 W) (R : Ending → World → Prop) hR => order_q rlo pl.x 4 9 _ _ W (VL.out.gr h) (VP.out.1.gr h) (by omega) (by omega) (R := R) hR
                  have OXH := Lib.hid fun W (h : Grow w14 W) (R : Ending → World → Prop) hR => order_q pl.x rhi 9 4 _ _ W (VP.out.1.gr h) (VH.out.gr h) (by omega) (by omega) (R := R) hR
                  have OLY := Lib.hid fun W (h : Grow w14 W) (R : Ending → World → Prop) hR => order_q rlo pl.y 4 9 _ _ W (VL.out.gr h) (VP.out.2.gr h) (by omega) (by omega) (R := R) hR
                  have OYH := Lib.hid fun W (h : Grow w14 W) (R : Ending → World → Prop) hR => order_q pl.y rhi 9 4 _ _ W (VP.out.2.gr h) (VH.out.gr h) (by omega) (by omega) (R := R) hR
                  have OXL := Lib.hid fun W (h : Grow w14 W) (R : Ending → World → Prop) hR => order_q pl.x rlo 9 4 _ _ W (VP.out.1.gr h) (VL.out.gr h) (by omega) (by omega) (R := R) hR
                  have OYL := Lib.hid fun W (h : Grow w14 W) (R : Ending → World → Prop) hR => order_q pl.y rlo 9 4 _ _ W (VP.out.2.gr h) (VL.out.gr h) (by omega) (by omega) (R := R) hR
                  have PQ1 : pl.x.q = fx.val := congrArg PtQ.x QP.out
                  have PQ2 : pl.y.q = fy.val := congrArg PtQ.y QP.out
                  rw [PQ1, QL.out] at OLX OXL
                  rw [PQ1, QH.out] at OXH
                  rw [PQ2, QL.out] at OLY OYL
                  rw [PQ2, QH.out] at OYH
                  obtain ⟨g1, hg1⟩ : ∃ n, cmpR ((-z.b : Int) : Rat) fx.val = n := ⟨_, rfl⟩
                  obtain ⟨g2, hg2⟩ : ∃ n, cmpR fx.val ((e + z.b : Int) : Rat) = n := ⟨_, rfl⟩
                  obtain ⟨g3, hg3⟩ : ∃ n, cmpR ((-z.b : Int) : Rat) fy.val = n := ⟨_, rfl⟩
                  obtain ⟨g4, hg4⟩ : ∃ n, cmpR fy.val ((e + z.b : Int) : Rat) = n := ⟨_, rfl⟩
                  obtain ⟨g5, hg5⟩ : ∃ n, cmpR fx.val ((-z.b : Int) : Rat) = n := ⟨_, rfl⟩
                  obtain ⟨g6, hg6⟩ : ∃ n, cmpR fy.val ((-z.b : Int) : Rat) = n := ⟨_, rfl⟩
                  rw [hg1] at OLX
                  rw [hg2] at OXH
                  rw [hg3] at OLY
                  rw [hg4] at OYH
                  rw [hg5] at OXL
                  rw [hg6] at OYL
                  obtain ⟨i1, hi1⟩ : ∃ d, decide (g1 < 0) = d := ⟨_, rfl⟩
                  obtain ⟨i2, hi2⟩ : ∃ d, decide (g2 < 0) = d := ⟨_, rfl⟩
                  obtain ⟨i3, hi3⟩ : ∃ d, decide (g3 < 0) = d := ⟨_, rfl⟩
                  obtain ⟨i4, hi4⟩ : ∃ d, decide (g4 < 0) = d := ⟨_, rfl⟩
                  obtain ⟨o1, ho1⟩ : ∃ d, decide (g5 < 0) = d := ⟨_, rfl⟩
                  obtain ⟨o2, ho2⟩ : ∃ d, decide (0 < g2) = d := ⟨_, rfl⟩
                  obtain ⟨o3, ho3⟩ : ∃ d, decide (g6 < 0) = d := ⟨_, rfl⟩
                  obtain ⟨o4, ho4⟩ : ∃ d, decide (0 < g4) = d := ⟨_, rfl⟩
                  have HOUT : Hid ((o1 || o2 || o3 || o4) = true → n1 = 0 ∧ f1 = true) := by
                    intro h
                    rw [← ho1, ← ho2, ← ho3, ← ho4, Bool.or_eq_true, Bool.or_eq_true, Bool.or_eq_true, decide_eq_true_eq, decide_eq_true_eq, decide_eq_true_eq, decide_eq_true_eq, ← hg5, ← hg2, ← hg6, ← hg4, cmpR_lt, cmpR_gt, cmpR_lt, cmpR_gt, or_assoc, or_assoc] at h
                    have := HW.out
                    rw [clip_out h, Prod.mk.injEq] at this
                    exact ⟨this.1.symm, this.2.symm⟩
                  have HINS : Hid ((i1 && i2 && i3 && i4) = true → windQ (l.map Pt.pq) ⟨(fx.val + ((z.x * e : Int) : Rat)) / ((pw z.up : Int) : Rat), (fy.val + ((z.y * e : Int) : Rat)) / ((pw z.up : Int) : Rat)⟩ = (n1, f1)) := by
                    intro h
                    rw [← hi1, ← hi2, ← hi3, ← hi4, Bool.and_eq_true, Bool.and_eq_true, Bool.and_eq_true, decide_eq_true_eq, decide_eq_true_eq, decide_eq_true_eq, decide_eq_true_eq, ← hg1, ← hg2, ← hg3, ← hg4, cmpR_lt, cmpR_lt, cmpR_lt, cmpR_lt] at h
                    rw [← HW.out, L0.out]
                    exact (top_wind (p := ⟨fx.val, fy.val⟩) h.1.1.1 h.1.1.2 h.1.2 h.2).symm
                  clear PQ1 PQ2 hg1 hg2 hg3 hg4 hg5 hg6 QL QH VL VH
                  have FL0 := Lib.hid FL.out
                  simp only [Act.put]
                  go_cut [31] from 157 to 182 (fun v wx => v = .bool (i1 && i2 && i3 && i4) ∧ Hid (Grow w14 wx))
                  case first =>
                    have GG : Hid (Grow w14 w14) := Grow.refl _
                    clear HOUT HINS ho1 ho2 ho3 ho4 OXL OYL HS WS
                    obtain ⟨z0', z1', z2', z3', z4', z5', z6', z7'⟩ := PV.at_ (grow_blk GG.out FP.out)
                    obtain ⟨x0', x1', x2', x3'⟩ := RV.at_ (grow_blk GG.out FL.out)
                    obtain ⟨y0', y1', y2', y3'⟩ := RV.at_ (grow_blk GG.out FH.out)
                    go_wp2_with fail
                    go_at_call 13
                    refine OLX.out _ GG.out _ ?_
                    intro w15 hg15
                    have GG := Lib.hid (GG.out.tr hg15)
                    clear hg15 z0' z1' z2' z3' z4' z5' z6' z7' x0' x1' x2' x3' y0' y1' y2' y3'
                    cases i1 with
                    | false =>
                      go_wp2_with fail
                      go_meet
                      case rel => exact ⟨rfl, GG.out⟩
                    | true =>
                      obtain ⟨z0', z1', z2', z3', z4', z5', z6', z7'⟩ := PV.at_ (grow_blk GG.out FP.out)
                      obtain ⟨x0', x1', x2', x3'⟩ := RV.at_ (grow_blk GG.out FL.out)
                      obtain ⟨y0', y1', y2', y3'⟩ := RV.at_ (grow_blk GG.out FH.out)
                      go_wp2_with fail
                      go_at_call 13
                      refine OXH.out _ GG.out _ ?_
                      intro w15 hg15
                      have GG := Lib.hid (GG.out.tr hg15)
                      clear hg15 z0' z1' z2' z3' z4' z5' z6' z7' x0' x1' x2' x3' y0' y1' y2' y3'
                      cases i2 with
                      | false =>
                        go_wp2_with fail
                        go_meet
                        case rel => exact ⟨rfl, GG.out⟩
                      | true =>
                        obtain ⟨z0', z1', z2', z3', z4', z5', z6', z7'⟩ := PV.at_ (grow_blk GG.out FP.out)
                        obtain ⟨x0', x1', x2', x3'⟩ := RV.at_ (grow_blk GG.out FL.out)
                        obtain ⟨y0', y1', y2', y3'⟩ := RV.at_ (grow_blk GG.out FH.out)
                        go_wp2_with fail
                        go_at_call 13
                        refine OLY.out _ GG.out _ ?_
                        intro w15 hg15
                        have GG := Lib.hid (GG.out.tr hg15)
                        clear hg15 z0' z1' z2' z3' z4' z5' z6' z7' x0' x1' x2' x3' y0' y1' y2' y3'
                        cases i3 with
                        | false =>
                          go_wp2_with fail
                          go_meet
                          case rel => exact ⟨rfl, GG.out⟩
                        | true =>
                          obtain ⟨z0', z1', z2', z3', z4', z5', z6', z7'⟩ := PV.at_ (grow_blk GG.out FP.out)
                          obtain ⟨x0', x1', x2', x3'⟩ := RV.at_ (grow_blk GG.out FL.out)
                          obtain ⟨y0', y1', y2', y3'⟩ := RV.at_ (grow_blk GG.out FH.out)
                          go_wp2_with fail
                          go_at_call 13
                          refine OYH.out _ GG.out _ ?_
                          intro w15 hg15
                          have GG := Lib.hid (GG.out.tr hg15)
                          clear hg15 z0' z1' z2' z3' z4' z5' z6' z7' x0' x1' x2' x3' y0' y1' y2' y3'
                          cases i4 with
                          | false =>
                            go_wp2_with fail
                            go_meet
                            case rel => exact ⟨rfl, GG.out⟩
                          | true =>
                            go_wp2_with fail
                            go_meet
                            case rel => exact ⟨rfl, GG.out⟩
                  case rest =>
                    obtain ⟨rfl, hgc⟩ := hcut
                    have GC := Lib.hid hgc.out
                    clear hgc hi1 hi2 hi3 hi4 OLX OLY
                    generalize wc = w16 at *
                    go_upto_region 24 with fail
                    go_cut [32] from 183 to 208 (fun v wx => v = .bool (o1 || o2 || o3 || o4) ∧ Hid (Grow w14 wx))
                    case first =>
                      have GG : Hid (Grow w14 w16) := GC.out
                      clear HOUT HINS HS WS GC
                      obtain ⟨z0', z1', z2', z3', z4', z5', z6', z7'⟩ := PV.at_ (grow_blk GG.out FP.out)
                      obtain ⟨x0', x1', x2', x3'⟩ := RV.at_ (grow_blk GG.out FL.out)
                      obtain ⟨y0', y1', y2', y3'⟩ := RV.at_ (grow_blk GG.out FH.out)
                      go_wp2_with fail
                      go_at_call 13
                      refine OXL.out _ GG.out _ ?_
                      intro w15 hg15
                      have GG := Lib.hid (GG.out.tr hg15)
                      clear hg15 z0' z1' z2' z3' z4' z5' z6' z7' x0' x1' x2' x3' y0' y1' y2' y3'
                      cases o1 with
                      | true =>
                        go_wp2_with fail
                        go_meet
                        case rel => exact ⟨rfl, GG.out⟩
                      | false =>
                        obtain ⟨z0', z1', z2', z3', z4', z5', z6', z7'⟩ := PV.at_ (grow_blk GG.out FP.out)
                        obtain ⟨x0', x1', x2', x3'⟩ := RV.at_ (grow_blk GG.out FL.out)
                        obtain ⟨y0', y1', y2', y3'⟩ := RV.at_ (grow_blk GG.out FH.out)
                        go_wp2_with fail
                        go_at_call 13
                        refine OXH.out _ GG.out _ ?_
                        intro w15 hg15
                        have GG := Lib.hid (GG.out.tr hg15)
                        clear hg15 z0' z1' z2' z3' z4' z5' z6' z7' x0' x1' x2' x3' y0' y1' y2' y3'
                        cases o2 with
                        | true =>
                          go_wp2_with fail
                          go_meet
                          case rel => exact ⟨rfl, GG.out⟩
                        | false =>
                          obtain ⟨z0', z1', z2', z3', z4', z5', z6', z7'⟩ := PV.at_ (grow_blk GG.out FP.out)
                          obtain ⟨x0', x1', x2', x3'⟩ := RV.at_ (grow_blk GG.out FL.out)
                          obtain ⟨y0', y1', y2', y3'⟩ := RV.at_ (grow_blk GG.out FH.out)
                          go_wp2_with fail
                          go_at_call 13
                          refine OYL.out _ GG.out _ ?_
                          intro w15 hg15
                          have GG := Lib.hid (GG.out.tr hg15)
                          clear hg15 z0' z1' z2' z3' z4' z5' z6' z7' x0' x1' x2' x3' y0' y1' y2' y3'
                          cases o3 with
                          | true =>
                            go_wp2_with fail
                            go_meet
                            case rel => exact ⟨rfl, GG.out⟩
                          | false =>
                            obtain ⟨z0', z1', z2', z3', z4', z5', z6', z7'⟩ := PV.at_ (grow_blk GG.out FP.out)
                            obtain ⟨x0', x1', x2', x3'⟩ := RV.at_ (grow_blk GG.out FL.out)
                            obtain ⟨y0', y1', y2', y3'⟩ := RV.at_ (grow_blk GG.out FH.out)
                            go_wp2_with fail
                            go_at_call 13
                            refine OYH.out _ GG.out _ ?_
                            intro w15 hg15
                            have GG := Lib.hid (GG.out.tr hg15)
                            clear hg15 z0' z1' z2' z3' z4' z5' z6' z7' x0' x1' x2' x3' y0' y1' y2' y3'
                            cases o4 with
                            | true =>
                              go_wp2_with fail
                              go_meet
                              case rel => exact ⟨rfl, GG.out⟩
                            | false =>
                              go_wp2_with fail
                              go_meet
                              case rel => exact ⟨rfl, GG.out⟩
                    case rest =>
                      obtain ⟨rfl, hgc⟩ := hcut
                      have FZ := Lib.hid (grow_blk hgc.out FZ.out)
                      have GA := Lib.hid (GA.out.tr hgc.out)
                      have HS := Lib.hid (HS.out.tr hgc.out)
                      have WS := Lib.hid (WS.out.tr hgc.out)
                      have FP := Lib.hid (grow_blk hgc.out FP.out)
                      have VP := Lib.hid (VP.out.gr hgc.out)
                      clear hgc GC OXL OYL OXH OYH ho1 ho2 ho3 ho4 FL FH FL0
                      generalize wc = w17 at *
                      generalize (i1 && i2 && i3 && i4) = ib at *
                      generalize (o1 || o2 || o3 || o4) = ob at *
                      go_wp2_with (refine wpList_load_row rfl 44 _ rfl pb rfl 44 _ _ _ FP.out Tryz.underlying44 rfl (by kernel_rfl) ?_)
                      go_at_call 14
                      refine winding_any m2 pl 9 _ _ _ _ _ (Rd.own_lt HS.out.oo) L2.out (fun p hp => (HS.out.vo p hp).into (T := fun _ => True) fun _ _ => trivial) VP.out (by omega) ?_
                      intro w18 hg18
                      have E18 : Hid (windQ (m2.map PV.q) pl.q = (n1, f1)) := by show _ = _; rw [Q2.out, QP.out, HW.out]
                      rw [E18.out]
                      dsimp only
                      have FZ := Lib.hid (grow_blk hg18 FZ.out)
                      have GA := Lib.hid (GA.out.tr hg18)
                      have HS := Lib.hid (HS.out.tr hg18)
                      have WS := Lib.hid (WS.out.tr hg18)
                      have FP := Lib.hid (grow_blk hg18 FP.out)
                      have VP := Lib.hid (VP.out.gr hg18)
                      clear hg18 E18 HS HW Q2 L2
                      cases ob with
                      | true =>
                        obtain ⟨rfl, rfl⟩ := HOUT.out rfl
                        clear HOUT HINS
                        go_wp2_with fail
                        go_at_call 6
                        refine HLV.out _ GA.out _ ?_
                        intro w9 hg9
                        have G9 := Lib.hid (GA.out.tr hg9)
                        clear hg9
                        go_wp2
                        exact HR.out _ G9.out
                      | false =>
                        cases ib with
                        | false =>
                          clear HOUT HINS
                          go_wp2_with fail
                          go_at_call 6
                          refine HLV.out _ GA.out _ ?_
                          intro w9 hg9
                          have G9 := Lib.hid (GA.out.tr hg9)
                          clear hg9
                          go_wp2
                          exact HR.out _ G9.out
                        | true =>
                          have EW := Lib.hid (HINS.out rfl)
                          clear HOUT HINS
                          go_upto_region 30 with fail
                          refine wp_region_free1 ⟨23, some 35, 44, zeroPV.cells.toArray⟩ 24 [0, 1, 2, 3, 4, 5, 8, 11, 12, 13, 14, 15, 16, 19, 6, 7, 9, 10, 17, 18, 20, 21, 22] (by kernel_rfl) (by kernel_rfl) ⟨_, rfl, rfl, rfl, fun a W K h => by go_simp; exact h⟩ (by intro c a d v w h; cases d <;> exact h) rfl ?_
                          have GD := (Grow.refl w18).dr
                          have FZ := Lib.hid (grow_blk GD FZ.out)
                          have FP := Lib.hid (grow_blk GD FP.out)
                          have VP := Lib.hid (VP.out.gr GD)
                          have GA := Lib.hid (GA.out.tr GD)
                          have WS := Lib.hid (WS.out.tr GD)
                          have GB : Hid (Grow w18.drew w18.drew) := Grow.refl _
                          have EWZ : Hid (w18.drew.heap.size = w18.heap.size) := rfl
                          clear GD
                          generalize w18.drew = w19 at *
                          obtain ⟨y1, y2, y3, y4, -, -, y7, y8, y9, y10⟩ := zright_iff ZR.out
                          have hm1 : 0 ≤ z.x * e ∧ z.x * e ≤ 70368744177664 := by
                            have := (scl_room ZR.out (n := 0) (m := z.x) ⟨by decide, by decide⟩ ⟨y7, y8⟩).2
                            exact this
                          have hm2 : 0 ≤ z.y * e ∧ z.y * e ≤ 70368744177664 := by
                            have := (scl_room ZR.out (n := 0) (m := z.y) ⟨by decide, by decide⟩ ⟨y9, y10⟩).2
                            exact this
                          have dm1 : IntKind.i64.wrap (z.x * e) = z.x * e := IntWalk.i64_in _ (by omega)
                          have dm2 : IntKind.i64.wrap (z.y * e) = z.y * e := IntWalk.i64_in _ (by omega)
                          have IM : Hid (I64 (z.x * e) ∧ I64 (z.y * e) ∧ I64 P) := ⟨⟨by omega, by omega⟩, ⟨by omega, by omega⟩, by omega, by omega⟩
                          have PWZ : Hid (pw z.up = P) := by show _ = _; rw [ZU.out.1, HPD.out]
                          have PNZ : Hid (((P : Int) : Rat) ≠ 0) := by have := cast_pos hP; intro h; grind
                          clear y1 y2 y3 y4 y7 y8 y9 y10 hm1 hm2
                          iterate 14
                            apply fr1_take; exact rfl; (simp); (intro x1; exact rfl)
                            · intro x1 W' hW
                              obtain ⟨z0', z1', z2', z3', z4', z5', z6', z7'⟩ := PV.at_ (grow_blk hW FP.out)
                              have q1 := ZmT.at_ (grow_blk hW FZ.out) 1
                              have q2 := ZmT.at_ (grow_blk hW FZ.out) 2
                              simp only [Zm.cells, List.getElem?_cons_zero, List.getElem?_cons_succ] at q1 q2
                              clear hW
                              simp only [Act.put, List.setIfInBounds_toArray, List.set_cons_zero, List.set_cons_succ]
                              go_simp
                              with_reducible rfl
                            simp only [Act.put, List.setIfInBounds_toArray, List.set_cons_zero, List.set_cons_succ]
                          clear dm1 dm2
                          apply fr1_turn; exact rfl; exact rfl; (simp); (intro x1; exact rfl)
                          intro x1 W5 hW K hK
                          simp only [Act.put, List.setIfInBounds_toArray, List.set_cons_zero, List.set_cons_succ]
                          go_simp
                          go_at_call 12
                          refine whole_q (z.x * e) _ IM.out.1 ?_
                          intro u1 w20 hg hq1 hr1
                          have V1 := Lib.hid (hr1.into (T := fun _ => True) fun _ _ => trivial)
                          have Q1 := Lib.hid hq1
                          clear hq1 hr1
                          have GB := Lib.hid (GB.out.tr (hW.tr hg))
                          refine hK.out _ _ hg ?_
                          clear hK hW hg
                          simp only [Act.put, List.setIfInBounds_toArray, List.set_cons_zero, List.set_cons_succ]
                          apply fr1_turn; exact rfl; exact rfl; (simp); (intro x1; exact rfl)
                          intro x1 W5 hW K hK
                          simp only [Act.put, List.setIfInBounds_toArray, List.set_cons_zero, List.set_cons_succ]
                          go_simp
                          go_at_call 16
                          refine plus_q pl.x u1 9 4 _ _ W5 (VP.out.1.gr (GB.out.tr hW)) (V1.out.gr hW) (by omega) (by omega) ?_
                          intro u2 w20 hg hq1 hr1
                          have V2r := Lib.hid (hr1.into (T := fun _ => True) fun _ _ => trivial)
                          have Q2r := Lib.hid hq1
                          clear hq1 hr1
                          have GB := Lib.hid (GB.out.tr (hW.tr hg))
                          refine hK.out _ _ hg ?_
                          clear hK hW hg
                          simp only [Act.put, List.setIfInBounds_toArray, List.set_cons_zero, List.set_cons_succ]
                          apply fr1_turn; exact rfl; exact rfl; (simp); (intro x1; exact rfl)
                          intro x1 W5 hW K hK
                          simp only [Act.put, List.setIfInBounds_toArray, List.set_cons_zero, List.set_cons_succ]
                          go_simp
                          go_at_call 12
                          refine whole_q P _ IM.out.2.2 ?_
                          intro u3 w20 hg hq1 hr1
                          have V3 := Lib.hid (hr1.into (T := fun _ => True) fun _ _ => trivial)
                          have Q3 := Lib.hid hq1
                          clear hq1 hr1
                          have V2r := Lib.hid (V2r.out.gr (hW.tr hg))
                          have GB := Lib.hid (GB.out.tr (hW.tr hg))
                          refine hK.out _ _ hg ?_
                          clear hK hW hg
                          simp only [Act.put, List.setIfInBounds_toArray, List.set_cons_zero, List.set_cons_succ]
                          apply fr1_turn; exact rfl; exact rfl; (simp); (intro x1; exact rfl)
                          intro x1 W5 hW K hK
                          simp only [Act.put, List.setIfInBounds_toArray, List.set_cons_zero, List.set_cons_succ]
                          go_simp
                          go_at_call 15
                          refine over_q u2 u3 14 4 _ _ W5 (V2r.out.gr hW) (V3.out.gr hW) (by omega) (by omega) (by rw [Q3.out]; exact PNZ.out) ?_
                          intro u4 w20 hg hq1 hr1
                          have V4 := Lib.hid (hr1.into (T := fun _ => True) fun _ _ => trivial)
                          have Q4 := Lib.hid hq1
                          clear hq1 hr1
                          have GB := Lib.hid (GB.out.tr (hW.tr hg))
                          refine hK.out _ _ hg ?_
                          clear hK hW hg
                          simp only [Act.put, List.setIfInBounds_toArray, List.set_cons_zero, List.set_cons_succ]
                          apply fr1_turn; exact rfl; exact rfl; (simp); (intro x1; exact rfl)
                          intro x1 W5 hW K hK
                          simp only [Act.put, List.setIfInBounds_toArray, List.set_cons_zero, List.set_cons_succ]
                          go_simp
                          go_at_call 12
                          refine whole_q (z.y * e) _ IM.out.2.1 ?_
                          intro u5 w20 hg hq1 hr1
                          have V5 := Lib.hid (hr1.into (T := fun _ => True) fun _ _ => trivial)
                          have Q5 := Lib.hid hq1
                          clear hq1 hr1
                          have V4 := Lib.hid (V4.out.gr (hW.tr hg))
                          have GB := Lib.hid (GB.out.tr (hW.tr hg))
                          refine hK.out _ _ hg ?_
                          clear hK hW hg
                          simp only [Act.put, List.setIfInBounds_toArray, List.set_cons_zero, List.set_cons_succ]
                          apply fr1_turn; exact rfl; exact rfl; (simp); (intro x1; exact rfl)
                          intro x1 W5 hW K hK
                          simp only [Act.put, List.setIfInBounds_toArray, List.set_cons_zero, List.set_cons_succ]
                          go_simp
                          go_at_call 16
                          refine plus_q pl.y u5 9 4 _ _ W5 (VP.out.2.gr (GB.out.tr hW)) (V5.out.gr hW) (by omega) (by omega) ?_
                          intro u6 w20 hg hq1 hr1
                          have V6 := Lib.hid (hr1.into (T := fun _ => True) fun _ _ => trivial)
                          have Q6 := Lib.hid hq1
                          clear hq1 hr1
                          have V4 := Lib.hid (V4.out.gr (hW.tr hg))
                          have GB := Lib.hid (GB.out.tr (hW.tr hg))
                          refine hK.out _ _ hg ?_
                          clear hK hW hg
                          simp only [Act.put, List.setIfInBounds_toArray, List.set_cons_zero, List.set_cons_succ]
                          apply fr1_turn; exact rfl; exact rfl; (simp); (intro x1; exact rfl)
                          intro x1 W5 hW K hK
                          simp only [Act.put, List.setIfInBounds_toArray, List.set_cons_zero, List.set_cons_succ]
                          go_simp
                          go_at_call 12
                          refine whole_q P _ IM.out.2.2 ?_
                          intro u7 w20 hg hq1 hr1
                          have V7 := Lib.hid (hr1.into (T := fun _ => True) fun _ _ => trivial)
                          have Q7 := Lib.hid hq1
                          clear hq1 hr1
                          have V4 := Lib.hid (V4.out.gr (hW.tr hg))
                          have V6 := Lib.hid (V6.out.gr (hW.tr hg))
                          have GB := Lib.hid (GB.out.tr (hW.tr hg))
                          refine hK.out _ _ hg ?_
                          clear hK hW hg
                          simp only [Act.put, List.setIfInBounds_toArray, List.set_cons_zero, List.set_cons_succ]
                          apply fr1_turn; exact rfl; exact rfl; (simp); (intro x1; exact rfl)
                          intro x1 W5 hW K hK
                          simp only [Act.put, List.setIfInBounds_toArray, List.set_cons_zero, List.set_cons_succ]
                          go_simp
                          go_at_call 15
                          refine over_q u6 u7 14 4 _ _ W5 (V6.out.gr hW) (V7.out.gr hW) (by omega) (by omega) (by rw [Q7.out]; exact PNZ.out) ?_
                          intro u8 w20 hg hq1 hr1
                          have V8 := Lib.hid (hr1.into (T := fun _ => True) fun _ _ => trivial)
                          have Q8 := Lib.hid hq1
                          clear hq1 hr1
                          have V4 := Lib.hid (V4.out.gr (hW.tr hg))
                          have GB := Lib.hid (GB.out.tr (hW.tr hg))
                          refine hK.out _ _ hg ?_
                          clear hK hW hg
                          simp only [Act.put, List.setIfInBounds_toArray, List.set_cons_zero, List.set_cons_succ]
                          obtain ⟨pf, hpf⟩ : ∃ pf : PV, pf = ⟨u4, u8⟩ := ⟨_, rfl⟩
                          have PX : Hid (pf.x = u4) := by rw [hpf]; rfl
                          have PY : Hid (pf.y = u8) := by rw [hpf]; rfl
                          apply fr1_take (v := .agg pf.cells.toArray); exact rfl; (simp); (intro x1; exact rfl)
                          · intro x1 W' hW
                            clear hW
                            subst hpf
                            obtain ⟨⟨a1, a2, a3, a4⟩, ⟨a5, a6, a7, a8⟩, aq⟩ := u4
                            obtain ⟨⟨b1, b2, b3, b4⟩, ⟨b5, b6, b7, b8⟩, bq⟩ := u8
                            unfold RV.cells PV.cells
                            simp only [Act.put, List.setIfInBounds_toArray, List.set_cons_zero, List.set_cons_succ]
                            go_simp
                          simp only [Act.put, List.setIfInBounds_toArray, List.set_cons_zero, List.set_cons_succ]
                          refine fr1_nil ?_
                          intro fb V hV hb
                          have V4 := Lib.hid (V4.out.gr hV)
                          have V8 := Lib.hid (V8.out.gr hV)
                          have GV := Lib.hid (GB.out.tr hV)
                          have FF0 : Hid (V.heap[fb]? = some (.cells zeroPV.cells.toArray 44 (0, 0))) := hb.1
                          have LB : Hid (w19.heap.size ≤ fb) := by show _ ≤ _; rw [EWZ.out]; exact hb.2.1
                          clear hV hb GB hpf V1 V2r V3 V5 V6 V7
                          unfold ptrTo
                          simp only [Act.put, List.setIfInBounds_toArray, List.set_cons_zero, List.set_cons_succ, List.drop_succ_cons, List.drop_zero]
                          have BN : BoxN V fb := ⟨_, _, _, FF0.out, PV.noint _⟩
                          have V4 : Hid (u4.rd (V.setRow fb pf.cells.toArray) (fun _ => True) 18) := V4.out.row BN _
                          have V8 : Hid (u8.rd (V.setRow fb pf.cells.toArray) (fun _ => True) 18) := V8.out.row BN _
                          have GN : Hid (Grow w19 (V.setRow fb pf.cells.toArray)) := GV.out.row LB.out _
                          have FF : Hid ((V.setRow fb pf.cells.toArray).heap[fb]? = some (.cells pf.cells.toArray 44 (0, 0))) := setRow_heap _ _ _ _ _ _ FF0.out
                          go_upto_region 31 with (refine wpList_store_row rfl 44 _ _ rfl fb pf.cells.toArray rfl rfl 44 _ FF0.out (by kernel_rfl) rfl (PV.one _) ?_)
                          clear FF0 BN LB GV EWZ FZ FP VP
                          generalize V.setRow fb pf.cells.toArray = w21 at *
                          have VF : Hid (pf.rd w21 (fun _ => True) 18) := ⟨by rw [PX.out]; exact V4.out, by rw [PY.out]; exact V8.out⟩
                          have QF : Hid (pf.q = ⟨(fx.val + ((z.x * e : Int) : Rat)) / ((pw z.up : Int) : Rat), (fy.val + ((z.y * e : Int) : Rat)) / ((pw z.up : Int) : Rat)⟩) := by
                            show _ = _
                            have PQ1 : pl.x.q = fx.val := congrArg PtQ.x QP.out
                            have PQ2 : pl.y.q = fy.val := congrArg PtQ.y QP.out
                            unfold PV.q
                            rw [PX.out, PY.out, Q4.out, Q8.out, Q2r.out, Q6.out, Q1.out, Q3.out, Q5.out, Q7.out, PQ1, PQ2, PWZ.out]
                          have GA := Lib.hid (GA.out.tr GN.out)
                          have WS := Lib.hid (WS.out.tr GN.out)
                          clear V4 V8 PX PY Q1 Q2r Q3 Q4 Q5 Q6 Q7 Q8 GN
                          go_wp2_with (refine wpList_load_row rfl 44 _ rfl fb rfl 44 _ _ _ FF.out Tryz.underlying44 rfl (by kernel_rfl) ?_)
                          go_at_call 14
                          refine winding_any m pf 18 _ _ _ _ _ (Rd.own_lt WS.out.oa) (by have := ML.out; omega) (fun p hp => ((WS.out.vo p hp).into (T := fun _ => True) fun _ _ => trivial).up (by omega)) VF.out (by omega) ?_
                          intro w22 hg22
                          have E22 : Hid (windQ (m.map PV.q) pf.q = (n1, f1)) := by show _ = _; rw [M0.out, QF.out, EW.out]
                          rw [E22.out]
                          dsimp only
                          have GA := Lib.hid (GA.out.tr hg22)
                          clear hg22 E22 WS VF FF
                          have n2 : (n1 == n1) = true := by simp
                          cases f1 with
                          | false =>
                            go_wp2_with fail
                            go_at_call 6
                            refine HLV.out _ GA.out _ ?_
                            intro w9 hg9
                            have G9 := Lib.hid (GA.out.tr hg9)
                            clear hg9
                            go_wp2
                            exact HR.out _ G9.out
                          | true =>
                            go_wp2_with fail
                            go_at_call 6
                            refine HLV.out _ GA.out _ ?_
                            intro w9 hg9
                            have G9 := Lib.hid (GA.out.tr hg9)
                            clear hg9
                            go_wp2
                            exact HR.out _ G9.out
    · have t2 : (pe != 0) = true := by rw [bne_iff_ne]; exact hpr
      clear hpr PIN
      go_wp2_with fail
      go_at_call 6
      refine HLV.out _ GA.out _ ?_
      intro w9 hg9
      have G9 := Lib.hid (GA.out.tr hg9)
      clear hg9
      go_wp2
      exact HR.out _ G9.out
end Go.Proofs.YteeeeddeacepmaaGreatDoor
