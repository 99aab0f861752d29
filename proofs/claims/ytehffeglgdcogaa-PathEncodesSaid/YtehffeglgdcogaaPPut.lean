import Derived.Test.YtehffeglgdcogaaChecked
import Derived.Test.YtehffeglgdcogaaBox
import Derived.Test.YtehffeglgdcogaaPRowD
import Derived.Test.YtehffeglgdcogaaZig
import Derived.Test.YtehffeglgdcogaaPack
import Derived.Test.YtehffeglgdcogaaLexT
import Derived.Test.YtehffeglgdcogaaPRight
namespace Go.Proofs.Ytehffeglgdcogaa
open Go.RowKit B

def lastPt (a : Pt) (l : List Pt) : Pt := l.getLast?.getD a
def putPts : List Pt → Pt → List Int
  | [], _ => []
  | p :: ps, a => zig (p.x - a.x) :: zig (p.y - a.y) :: putPts ps p
theorem lastPt_snoc (a : Pt) (l : List Pt) (x : Pt) : lastPt a (l ++ [x]) = x := by simp [lastPt]
theorem lastPt_cons (a p : Pt) (l : List Pt) : lastPt a (p :: l) = lastPt p l := by
  cases l with
  | nil => simp [lastPt]
  | cons q l => rw [lastPt, List.getLast?_cons_cons, lastPt]; rw [List.getLast?_cons]; rfl
theorem putPts_snoc (x : Pt) : ∀ (l : List Pt) (a : Pt), putPts (l ++ [x]) a = putPts l a ++ [zig (x.x - (lastPt a l).x), zig (x.y - (lastPt a l).y)]
  | [], a => by simp [putPts, lastPt]
  | p :: l, a => by simp [putPts, putPts_snoc x l p, lastPt_cons]
theorem putPts_len : ∀ (l : List Pt) (a : Pt), (putPts l a).length = 2 * l.length
  | [], _ => rfl
  | p :: l, a => by simp [putPts, putPts_len l p]; omega

theorem or_head (k n : Nat) (hk : k < 8) (hn : n ≤ 1000000) : bits .or .i64 (k : Int) ((n : Int) * 8) = ((n * 8 + k : Nat) : Int) := by
  show IntKind.i64.wrap ((BitVec.ofInt 64 (k : Int) ||| BitVec.ofInt 64 ((n : Int) * 8)).toNat : Int) = _
  have e : ((n : Int) * 8) = ((n * 8 : Nat) : Int) := by omega
  rw [e, BitVec.toNat_or, BitVec.ofInt_natCast, BitVec.ofInt_natCast, BitVec.toNat_ofNat, BitVec.toNat_ofNat, Nat.mod_eq_of_lt (by omega), Nat.mod_eq_of_lt (by omega), IntKind.wrap_i64]
  have h := Nat.two_pow_add_eq_or_of_lt (i := 3) (b := k) hk n
  rw [Nat.mul_comm, Nat.or_comm] at h
  rw [← h]
  omega

def Near (p : Pt) : Prop := (-1048576 ≤ p.x ∧ p.x ≤ 1048576) ∧ -1048576 ≤ p.y ∧ p.y ≤ 1048576
theorem zig_near {a b : Int} (h1 : -1048576 ≤ a ∧ a ≤ 1048576) (h2 : -1048576 ≤ b ∧ b ≤ 1048576) : 0 ≤ zig (a - b) ∧ zig (a - b) < 4294967296 := by
  unfold zig
  split <;> omega
theorem lastPt_near {a : Pt} {l : List Pt} (ha : Near a) (hl : ∀ p ∈ l, Near p) : Near (lastPt a l) := by
  unfold lastPt
  cases h : l.getLast? with
  | none => exact ha
  | some x => exact hl x (List.mem_of_getLast? h)

set_option maxRecDepth 100000 in
set_option maxHeartbeats 4000000 in
theorem wput_any (kind : Nat) (l : List Pt) (v : Value) (wb : Nat) (lv : Value) (us : List Int) (at_ : Pt) (base : Nat) (w0 w : World)
    (hB : BoxH w0 wb #[lv, .int .i64 at_.x, .int .i64 at_.y] 94 w) (hO : w.ownsRow base 78 1 lv us.length (U32 us)) (hne : lv.ownBlock ≠ some wb) (hb : w0.heap.size ≤ base ∧ base ≤ w.heap.size)
    (hl : Rd w0 (· < w0.heap.size) 2 v l.length (Pts l)) (hk : kind < 8) (hlen : l.length ≤ 1000) (hus : us.length ≤ 100000) (hn : ∀ p ∈ l, Near p) (hna : Near at_) {R : Ending → World → Prop}
    (hR : ∀ lv' w', BoxH w0 wb #[lv', .int .i64 (lastPt at_ l).x, .int .i64 (lastPt at_ l).y] 94 w' → w'.ownsRow base 78 1 lv' (us ++ ((l.length * 8 + kind : Nat) : Int) :: putPts l at_).length (U32 (us ++ ((l.length * 8 + kind : Nat) : Int) :: putPts l at_)) → lv'.ownBlock ≠ some wb → Grow w0 w' → R (.returned (.tuple #[])) w') :
    Calls Try.prog 57 #[.pointer (some ⟨wb, 0, none⟩), .int .i64 kind, v] w R := by
  have HR := Lib.hid hR
  have HN := Lib.hid hn
  have HNA := Lib.hid hna
  have HO := Lib.hid hO
  have HB := Lib.hid hB
  have HL := Lib.hid hl
  have HNE := Lib.hid hne
  clear hR hn hna
  obtain ⟨_, A, c, rfl, h1, h2, h3, h4⟩ := hl
  unfold maxLen at h2
  have c0 := hB.cell 0
  have f0 := hB.free 0
  clear hO hB h3 hne
  have hbits := or_head kind l.length hk (by omega)
  go_enter Try.func57, Try.ntmps57
  go_wp2_with (at_builtin; refine wpList_new rfl _ _ rfl el_u32 HO.out rfl 1 _ rfl (by decide) rfl (by simp [Value.oneCell']) (by omega) HB.out.grow hb ?_; intro v1 w1 hown1 hg1 hgr1 hb1; obtain ⟨X1, cc1, rfl⟩ := own_slice hown1; have B1 := Lib.hid (HB.out.by_ hgr1 (fun k hk => by have := own_ge HO.out k hk; omega) (fun e => HNE.out e.symm)); have d0 := B1.out.cell 0; have e0 := B1.out.free 0; have NE1 : Hid ((Value.slice X1 (us.length + 1) cc1).ownBlock ≠ some wb) := (ins_ne HNE.out HB.out.lt hb1); have O1 := Lib.hid hown1; have HB1 := Lib.hid hgr1.size; clear hg1 hb1 hown1 hgr1)
  have B2 := Lib.hid (B1.out.set 0 (.slice X1 (us.length + 1) cc1))
  have O2 := Lib.hid (own_set (j := 0) (u := .slice X1 (us.length + 1) cc1) O1.out NE1.out)
  have S2 : Hid (base ≤ (w1.setCell ⟨wb, 0, none⟩ (.slice X1 (us.length + 1) cc1)).heap.size) := by rw [size_setCell]; exact Nat.le_trans hb.2 HB1.out
  clear hbits c0 f0 d0 e0 HB1
  go_loopw [25] (fun i wr => ∃ (k m : Nat) (xs : List Int) (u : Value), k ≤ l.length ∧ i = .int .i64 k ∧ Hid (m = us.length + 1 + 2 * k) ∧ Hid (xs = us ++ ((l.length * 8 + kind : Nat) : Int) :: putPts (l.take k) at_) ∧ Hid (BoxH w0 wb #[u, .int .i64 (lastPt at_ (l.take k)).x, .int .i64 (lastPt at_ (l.take k)).y] 94 wr) ∧ Hid (wr.ownsRow base 78 1 u m (U32 xs)) ∧ Hid (u.ownBlock ≠ some wb) ∧ Hid (base ≤ wr.heap.size)) (fun i _ => l.length - (intOf i).toNat)
  case atStart => exact ⟨0, us.length + 1, us ++ [((l.length * 8 + kind : Nat) : Int)], _, Nat.zero_le _, rfl, rfl, rfl, B2.out, own_eq O2.out rfl (by rw [U32_app]; simp [U32]), NE1.out, S2.out⟩
  case round =>
    clear O1 O2 S2 B1 B2 NE1 HO HB HNE
    obtain ⟨k, m, xs, u, hk2, rfl, hm, hxs, hB, hO, hne, hbs⟩ := hrel
    by_cases hlt : k < l.length
    · obtain ⟨b, o, rfl, hS, hc⟩ := h4 (by omega)
      have e1 := flat_cells Pt.cells_len hB.out.grow hS hc hlt
      have HP : Hid (putPts (l.take (k + 1)) at_ = putPts (l.take k) at_ ++ [zig ((l[k]'hlt).x - (lastPt at_ (l.take k)).x), zig ((l[k]'hlt).y - (lastPt at_ (l.take k)).y)]) := by
        show _ = _
        rw [List.take_succ_eq_append_getElem hlt]; exact putPts_snoc _ _ _
      have HLP : Hid (lastPt at_ (l.take (k + 1)) = l[k]'hlt) := by
        show _ = _
        rw [List.take_succ_eq_append_getElem hlt]; exact lastPt_snoc _ _ _
      have hp := HN.out (l[k]'hlt) (List.getElem_mem hlt)
      have hq := lastPt_near HNA.out (fun p hp => HN.out p (List.mem_of_mem_take hp)) (l := l.take k)
      clear hc h4
      generalize l[k]'hlt = p at *
      generalize lastPt at_ (l.take k) = q at *
      obtain ⟨p1, p2⟩ := p
      obtain ⟨q1, q2⟩ := q
      obtain ⟨hp1, hp2⟩ := hp
      obtain ⟨hq1, hq2⟩ := hq
      dsimp only at *
      have c1 := e1 0 _ rfl
      have c2 := e1 1 _ rfl
      simp only [Nat.add_zero] at c1
      clear e1
      have z1 := zig_near hp1 hq1
      have z2 := zig_near hp2 hq2
      have HZ1 := Lib.hid fun W (R : Ending → World → Prop) hR => zig_any (p1 - q1) W (by unfold I64; omega) (R := R) hR
      have HZ2 := Lib.hid fun W (R : Ending → World → Prop) hR => zig_any (p2 - q2) W (by unfold I64; omega) (R := R) hR
      generalize hzz1 : zig (p1 - q1) = Z1 at *
      generalize hzz2 : zig (p2 - q2) = Z2 at *
      clear hzz1 hzz2
      have W1 : IntKind.i64.wrap (p1 - q1) = p1 - q1 := IntWalk.i64_in _ (by omega)
      have W2 : IntKind.i64.wrap (p2 - q2) = p2 - q2 := IntWalk.i64_in _ (by omega)
      have W3 : IntKind.u32.wrap Z1 = Z1 := by rw [IntKind.wrap_u32]; omega
      have W4 : IntKind.u32.wrap Z2 = Z2 := by rw [IntKind.wrap_u32]; omega
      have W5 : Z1 % 4294967296 = Z1 := by omega
      have W6 : Z2 % 4294967296 = Z2 := by omega
      have hwb := Lib.hid hB.out.lt
      have BP := Lib.hid (BoxH.laid #[.int .i64 p1, .int .i64 p2] 77 hB.out.grow)
      have BW := Lib.hid (hB.out.tr ((Grow.refl wr).al (.cells #[.int .i64 p1, .int .i64 p2] 77)))
      have OW := Lib.hid (own_grow hO.out ((Grow.refl wr).al (.cells #[.int .i64 p1, .int .i64 p2] 77)))
      have BSZ : Hid (base ≤ (wr.alloc (.cells #[.int .i64 p1, .int .i64 p2] 77)).heap.size) := by rw [World.size_alloc]; exact Nat.le_succ_of_le hbs.out
      have ULT : Hid (∀ kk, u.ownBlock = some kk → kk < wr.heap.size) := fun kk hk => (hO.out.lt kk hk).2
      go_wp2_with fail
      clear c1 c2
      generalize wr.alloc (.cells #[.int .i64 p1, .int .i64 p2] 77) = wa at *
      refine wp_region_lexT (fun W => BoxH w0 wb #[u, .int .i64 q1, .int .i64 q2] 94 W ∧ BoxH w0 wr.heap.size #[.int .i64 p1, .int .i64 p2] 77 W) (⟨BW.out.tr (Grow.refl _).dr, BP.out.tr (Grow.refl _).dr⟩) 27 [0, 1, 2, 3, 4, 5, 6, 7, 8, 9, 10, 11, 12, 15, 16, 17, 18, 19, 20, 21, 22, 13, 14, 23, 24, 25, 26] (by kernel_rfl) (by kernel_rfl) (by intro c a d v w h; cases d <;> exact h) ?_
      iterate 21 (apply lext_take; exact rfl; exact rfl; (intro W hW; obtain ⟨b1, b2⟩ := hW; have y0 := b1.cell 0; have y1 := b1.cell 1; have y2 := b1.cell 2; have z0 := b2.cell 0; have z1 := b2.cell 1; clear b1 b2; (try clear hW); go_simp; with_reducible rfl); try simp only [Act.put, List.setIfInBounds_toArray, List.set_cons_zero, List.set_cons_succ])
      have GG := Lib.hid (show BoxH w0 wb #[u, .int .i64 q1, .int .i64 q2] 94 wa.drew ∧ BoxH w0 wr.heap.size #[.int .i64 p1, .int .i64 p2] 77 wa.drew from ⟨BW.out.tr (Grow.refl _).dr, BP.out.tr (Grow.refl _).dr⟩)
      apply lext_turn; exact rfl; exact rfl; exact rfl; intro K hK; go_simp; go_at_call 17; refine HZ1.out _ _ ?_; refine hK.out _ _ GG.out ?_; clear hK
      try simp only [Act.put, List.setIfInBounds_toArray, List.set_cons_zero, List.set_cons_succ]
      iterate 1 (apply lext_take; exact rfl; exact rfl; (intro W hW; (try clear hW); go_simp; with_reducible rfl); try simp only [Act.put, List.setIfInBounds_toArray, List.set_cons_zero, List.set_cons_succ])
      apply lext_turn; exact rfl; exact rfl; exact rfl; intro K hK; go_simp; go_at_call 17; refine HZ2.out _ _ ?_; refine hK.out _ _ GG.out ?_; clear hK
      try simp only [Act.put, List.setIfInBounds_toArray, List.set_cons_zero, List.set_cons_succ]
      iterate 1 (apply lext_take; exact rfl; exact rfl; (intro W hW; (try clear hW); go_simp; with_reducible rfl); try simp only [Act.put, List.setIfInBounds_toArray, List.set_cons_zero, List.set_cons_succ])
      apply lext_turn; exact rfl; exact rfl; exact rfl; intro K hK; go_simp; refine hK.out _ _ (⟨GG.out.1.tr ((Grow.refl _).al _), GG.out.2.tr ((Grow.refl _).al _)⟩) ?_; clear hK; try simp only [Act.put, List.setIfInBounds_toArray, List.set_cons_zero, List.set_cons_succ]
      apply lext_turn; exact rfl; exact rfl; exact rfl; intro K hK; refine oper_new3 _ _ rfl el_u32 (own_grow OW.out (Grow.refl _).dr) rfl 2 _ rfl _ rfl (by decide) rfl (by simp [Value.oneCell']) (by have := hm.out; omega) BSZ.out ?_; intro v' w' k1 k2 k3
      have GB : BoxH w0 wb #[u, .int .i64 q1, .int .i64 q2] 94 w' := GG.out.1.by_ k2 (fun k hk => by have := own_ge OW.out k hk; omega) (fun e => hne.out e.symm)
      have GP : BoxH w0 wr.heap.size #[.int .i64 p1, .int .i64 p2] 77 w' := GG.out.2.by_ k2 (fun k hk => by have := own_ge OW.out k hk; omega) (fun e => by have := ULT.out _ e.symm; omega)
      have NE2 : Hid (v'.ownBlock ≠ some wb) := ins_ne hne.out BW.out.lt k3
      have HSZ := Lib.hid k2.size
      refine hK.out _ _ ⟨GB, GP⟩ ?_
      clear hK k2 k3 GG
      have O3 := Lib.hid k1
      obtain ⟨X3, cc3, hv3⟩ := own_slice k1
      subst hv3
      clear k1
      try simp only [Act.put, List.setIfInBounds_toArray, List.set_cons_zero, List.set_cons_succ]
      refine lext_nil ?_
      simp only [List.drop_succ_cons, List.drop_zero]
      have GB2 := Lib.hid (GB.set 0 (.slice X3 (m + 2) cc3))
      have GP2 := Lib.hid (GP.other (j := 0) (v := .slice X3 (m + 2) cc3) (by have := hwb.out; omega) GB.2.1)
      have y0 := GB.cell 0
      have f0 := GB.free 0
      have y1 := GB2.out.cell 1
      have y2 := GB2.out.cell 2
      have f1 := GB2.out.free 1
      have f2 := GB2.out.free 2
      have z1 := GP2.out.cell 0
      have z2 := GP2.out.cell 1
      clear GB GP
      go_wp2
      go_roundw
      case rel =>
        refine ⟨k + 1, m + 2, xs ++ [Z1, Z2], .slice X3 (m + 2) cc3, by omega, by go_num, (by have := hm.out; omega : m + 2 = us.length + 1 + 2 * (k + 1)), ?_, ?_, ?_, NE2.out, ?_⟩
        · show _ = _
          rw [hxs.out, HP.out]; simp
        · rw [HLP.out]
          exact (GB2.out.set 1 (.int .i64 p1)).set 2 (.int .i64 p2)
        · exact own_eq (own_set (own_set (own_set O3.out NE2.out) NE2.out) NE2.out) rfl (by rw [U32_app]; rfl)
        · show _ ≤ _
          rw [size_setCell, size_setCell, size_setCell]
          exact Nat.le_trans BSZ.out HSZ.out
      case measure => simp [intOf]; omega
    · obtain rfl : k = l.length := by omega
      rw [List.take_length] at hxs hB
      have hm' := hm.out
      have hx' := hxs.out
      go_wp2
      go_end0
      refine HR.out u wr hB.out (own_eq hO.out ?_ (by rw [hx'])) hne.out hB.out.grow
      rw [hm', List.length_append, List.length_cons, putPts_len]
      omega
end Go.Proofs.Ytehffeglgdcogaa
