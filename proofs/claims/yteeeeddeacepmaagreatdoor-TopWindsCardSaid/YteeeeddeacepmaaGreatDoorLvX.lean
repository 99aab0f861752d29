import Derived.Test.YteeeeddeacepmaaGreatDoorLvO
import Derived.Lib.AppendIntMem
namespace Go.Proofs.YteeeeddeacepmaaGreatDoor
set_option maxRecDepth 100000
open Go.RowKit B
def TenIs (w : World) : Prop := Lib.TabIs Tryz.prog w "internal/strconv.uint64pow10" .u64 Lib.pow10Tab
theorem TenIs.gr {w w' : World} (h : TenIs w) (hg : Grow w w') : TenIs w' := Lib.tabBelow_of_tabIs h w' hg
theorem grow_os (w : World) (n : Nat) (os : Array Obj) : Grow w (Sort.grow (w.drewN n) os) :=
 ⟨rfl, rfl, rfl, by show w.heap.size <= (w.heap ++ os).size; rw [Array.size_append]; omega, fun i hi => by
  show (w.heap ++ os)[i]? = _
  rw [Array.getElem?_append_left hi]⟩
theorem itoa404 (w : World) (hT : TenIs w) {R : Ending -> World -> Prop} (hR : ∀ w', Grow w w' -> R (.returned (.string ⟨#[52, 48, 52]⟩)) w') : Calls Tryz.prog 93 #[.int .i64 404] w R := by
 refine (Any.strconv_Itoa Tryz.laysItoa 404 (by decide) (by decide) w hT).mono ?_; rintro e w' ⟨rfl, k, os, rfl⟩; rw [show Lib.itoa 404 = [52, 48, 52] by decide +kernel]; exact hR _ (grow_os _ _ _)
theorem wpList_app_none {P : Program} {w : World} {ops : Array Oper} {rest : List Oper} {o : Oper} {a : Act} {Q : Exit -> Act -> World -> Prop} (hg : o.guard = none) (s x : Operand) {t : TypeId} (ho : o.op = .call { callee := .builtin .append, args := #[s, x], argTypes := #[t, t] })
  {v : Value} (hs : a.eval s = v) (hx : a.eval x = .slice none 0 0) (hr : (Builtin.append_ #[t, t] o.type #[v, .slice none 0 0]).run P w = .ok v w) (h : wpList P ops Q rest (a.put o.dst v) w) : wpList P ops Q (o :: rest) a w := by
 refine wpList_plain hg fun K hK => ?_
 unfold Oper.wp; simp [execOp, ho, resolve, invoke, builtin, hs, hx, hr, Result.andThen]
 exact hK _ _ h
def c4 : Array Value := #[.slice none 0 0, .string ⟨#[]⟩, .int .i64 404]
set_option maxHeartbeats 4000000 in
theorem bytes_q (w : World) (hT : TenIs w) {R : Ending -> World -> Prop} (hR : ∀ b n c w', Grow w w' -> R (.returned (.slice (some ⟨b, 0, none⟩) n c)) w') :
  Calls Tryz.prog 135 #[.agg #[.slice none 0 0, .string ⟨#[]⟩, .int .i64 404]] w R := by
 have HR := Lh hR
 obtain ⟨wa, hwa⟩ : ∃ wa, wa = w.alloc (.cells c4 135) := ⟨_, rfl⟩
 have BX : Hid (BoxH w w.heap.size c4 135 wa) := by subst hwa; exact BoxH.laid _ _ (Grow.refl _)
 have HT := Lh (hT.gr BX.out.grow); clear hR hT; go_enter Tryz.func135, Tryz.ntmps135
 go_upto_region 1 with fail
 rw [show w.alloc (.cells #[.slice none 0 0, .string ⟨#[]⟩, .int .i64 404] 135) = wa from hwa.symm]; clear hwa; refine wp_region_lexT (Grow wa.drew) ((Grow.refl _)) 6 [0, 1, 4, 5, 2, 3] (by kernel_rfl) (by kernel_rfl) (by intro c a d v w h; cases d <;> exact h) ?_; have BD := Lh (BX.out.tr (Grow.refl wa).dr); have TD := Lh (HT.out.gr (Grow.refl wa).dr); generalize wa.drew = wb at *
 iterate 4 (apply lext_take; exact rfl; exact rfl; (intro W hW; have c1 := (BD.out.tr hW).cell 1; have c2 := (BD.out.tr hW).cell 2; unfold c4 at c1 c2; simp only [List.getElem?_toArray, List.getElem?_cons_zero, List.getElem?_cons_succ] at c1 c2; (try clear hW); go_simp; with_reducible rfl); try simp only [Act.put, sA, sZ, sS])
 apply lext_turn; exact rfl; exact rfl; exact rfl; intro K hK; go_simp; go_at_call 93; refine itoa404 _ TD.out ?_; intro w1 hg1; have G1 := Lh hg1; refine hK.out _ _ G1.out ?_; clear hK hg1
 try simp only [Act.put, sA, sZ, sS]
 iterate 1 (apply lext_take; exact rfl; exact rfl; (intro W hW; (try clear hW); go_simp; with_reducible rfl); try simp only [Act.put, sA, sZ, sS])
 refine lext_nil ?_; simp only [List.drop_succ_cons, List.drop_zero]; have B1 := Lh (BD.out.tr G1.out)
 obtain ⟨N, hN⟩ : ∃ N : ByteArray -> Nat, N = fun t => t.size := ⟨_, rfl⟩
 obtain ⟨C, hC⟩ : ∃ C : ByteArray -> Nat, C = fun t => grownCap w1 t.size 0 5 := ⟨_, rfl⟩
 obtain ⟨X, hX⟩ : ∃ X : ByteArray -> World, X = fun t => Lib.bytesWorld w1 5 t := ⟨_, rfl⟩
 have hcv : ∀ t, (convert 9 65 (.string t)).run Tryz.prog w1 = .ok (.slice (some ⟨w1.heap.size, 0, none⟩) (N t) (C t)) (X t) := by rw [hN, hC, hX]; exact fun t => lvBytes w1 t
 have hap : ∀ t W, (Builtin.append_ #[65, 65] 65 #[.slice (some ⟨w1.heap.size, 0, none⟩) (N t) (C t), .slice none 0 0]).run Tryz.prog W = .ok (.slice (some ⟨w1.heap.size, 0, none⟩) (N t) (C t)) W := by
  intro t W; have hnc : N t <= C t := by rw [hN, hC]; exact grownCap_ge _ _ _ _
  obtain ⟨i, hi, -⟩ := info_parts (P := Tryz.prog) (e := 5) (z := .int .u8 0) (size := 1) (bytes := 1) (by kernel_rfl); simp [Builtin.append_, run_underlying Tryz.underlying65, sizeOf, typeInfo, hi, Builtin.lenOf, Builtin.firstCells, hnc, storeCells]
 have GX : Hid (∀ t, Grow w (X t)) := by rw [hX]; exact fun t => (BD.out.grow.tr G1.out).tr (lvGrow _ _ _)
 have d0 : ∀ t, (X t).cell? ⟨w.heap.size, 0, none⟩ = some (.slice none 0 0) := by
  rw [hX]; exact fun t => (B1.out.tr (lvGrow _ _ _)).cell 0
 clear hN hC hX; have HAP := Lh hap; clear hap; go_wp2_with (at_builtin; refine wpList_app_none rfl _ _ rfl rfl rfl (HAP.out _ _) ?_)
 exact HR.out _ _ _ _ (GX.out _)
set_option maxHeartbeats 2000000 in
theorem put_q (w : World) (c b n k : Nat) (h0 : w.cell? ⟨c, 0, none⟩ = some (.int .i64 0)) {R : Ending -> World -> Prop} (hR : R (.returned (.bool false)) w) :
  Calls Tryz.prog 134 #[.pointer (some ⟨c, 0, none⟩), .string ⟨#[47, 97, 46, 106, 115, 111, 110]⟩, .slice (some ⟨b, 0, none⟩) n k] w R := by
 have HR := Lh hR; clear hR; go_enter Tryz.func134, Tryz.ntmps134
 go_wp2; exact HR.out
end Go.Proofs.YteeeeddeacepmaaGreatDoor
