import Derived.Test.YteeeeddeacepmaaGreatDoorStIn
import Derived.RegionIn
import Derived.Test.YteeeeddeacepmaaGreatDoorLvSJ
namespace Go.Proofs.YteeeeddeacepmaaGreatDoor
set_option maxRecDepth 100000
open Go.RowKit Go.Shelf
attribute [local go_sem] Oper.semAt_some
def encC (hb : Nat) (_ : Unit) : Array Value := #[.slice (some ⟨hb, 0, none⟩) 2 2]
def KpC (n₀ Bs Bn : Nat) (W W' : World) : Prop := Below n₀ W W' /\ W'.heap[Bs]? = W.heap[Bs]? /\ W'.heap[Bn]? = W.heap[Bn]?
theorem KpC.tr {n₀ Bs Bn : Nat} {A B C : World} (h : KpC n₀ Bs Bn A B) (k : KpC n₀ Bs Bn B C) : KpC n₀ Bs Bn A C := ⟨h.1.trans k.1, k.2.1.trans h.2.1, k.2.2.trans h.2.2⟩
theorem KpC.put {n₀ Bs Bn : Nat} {w : World} (hn : n₀ <= w.heap.size) (hB : Bs < w.heap.size) (hC : Bn < w.heap.size) (W : World) (l : Nat) (o o' : Obj) (hl : w.heap.size <= l) (h : W.heap[l]? = some o) (h1 : o.isCells = false) (h2 : o.isWalk = false) : KpC n₀ Bs Bn W (W.putObj l o') :=
 ⟨belowK_b hn W l o o' hl h h1 h2, World.putObj_heap_other (by omega), World.putObj_heap_other (by omega)⟩
set_option maxHeartbeats 4000000 in
theorem chunk1_in (n : Nat) (lY Bs Bn n₀ hb : Nat) (J Jx : List Unit -> World -> Prop)
  (hY : ∀ pre x W, J pre W -> pre.length < 1 -> YieldAt Fence.wide (n - 1) Tryz.prog lY (encC hb x) W fun e W' =>
   (e = .returned (.bool true) /\ J (pre ++ [x]) W' /\ KpC n₀ Bs Bn W W') ∨ (e = .returned (.bool false) /\ Jx (pre ++ [x]) W'))
  (W : World) (hJ : AbidesFrom W.heap.size J) (hBs : W.heap[Bs]? = some (.cells #[.slice (some ⟨hb, 0, none⟩) 2 2] 110 (0, 0))) (hBn : W.heap[Bn]? = some (.cells #[.int .i64 2] 3 (0, 0))) (h0 : J [] W) :
  CallsIn Fence.wide n Tryz.prog 175 #[.func (.yield lY) #[] #[], .pointer (some ⟨Bs, 0, none⟩), .pointer (some ⟨Bn, 0, none⟩)] W fun e W' => (∃ v, e = .returned v) /\
   ((∃ ys, ys = [()] /\ J ys W') ∨ (∃ pre, pre <+: [()] /\ Jx pre W')) := by
 refine callsIn_of_wp Tryz.func175 rfl trivial ?_ rfl; have HJ := Lh hJ; have HY := Lh hY; have HBs := Lh hBs; have HBn := Lh hBn; clear hJ hY hBs hBn; simp only [Tryz.ntmps175, List.size_toArray, List.length_cons, List.length_nil, Nat.reduceAdd, Nat.reduceSub, Array.replicate_succ, Array.replicate_zero, List.push_toArray, List.append_toArray, List.nil_append, List.cons_append]
 gi_wp2
 gi_loopw [4] (fun i wr => ((i = .int .i64 0 /\ Hid (J [] wr)) ∨ (i = .int .i64 2 /\ Hid (J [()] wr))) /\ Hid (wr.heap[Bs]? = some (.cells #[.slice (some ⟨hb, 0, none⟩) 2 2] 110 (0, 0))) /\ Hid (wr.heap[Bn]? = some (.cells #[.int .i64 2] 3 (0, 0)))) (fun i _ => (2 - intOf i).toNat)
 case atStart => exact ⟨.inl ⟨rfl, h0⟩, HBs, HBn⟩
 case round =>
  obtain ⟨hi, hbs, hbn⟩ := hrel; have cS := cell_of_one hbs.out; have cN := cell_of_one hbn.out
  rcases hi with ⟨rfl, hj⟩ | ⟨rfl, hj⟩
  ·obtain ⟨fn, tmps, assign, body, hy, hR⟩ := HY.out [] () wr.drew (abides_grow HJ.out hj.out (Grow.refl wr).dr) (by decide)
   dsimp only [encC] at hy
   have HR : Hid (RoundIn Fence.wide (n - 1) Tryz.prog lY fn tmps assign body wr.drew fun e W' => ∃ t : Bool, e = .returned (.bool t) /\ Hid ((t = true /\ J [()] W' /\ KpC n₀ Bs Bn wr.drew W') ∨ (t = false /\ Jx [()] W'))) := by
    refine hR.mono ?_; rintro e W' (⟨rfl, h1, h2⟩ | ⟨rfl, h1⟩)
    ·exact ⟨true, rfl, .inl ⟨rfl, h1, h2⟩⟩
    ·exact ⟨false, rfl, .inr ⟨rfl, h1⟩⟩
   clear hR
   gi_wp2
   refine wpIn_region_still_tail 5 (by kernel_rfl) (by kernel_rfl) ?_; simp only [List.take_succ_cons, List.take_zero, List.drop_succ_cons, List.drop_zero]
   repeat still_step
   try refine wpStill_nil ?_
   gi_wp2
   refine ⟨(by simp [Fence.wide]), HR.out.mono ?_⟩; rintro e W3 ⟨t, rfl, hpost⟩
   cases t with
   | true =>
    have hp : J [()] W3 /\ KpC n₀ Bs Bn wr.drew W3 := by
     rcases hpost.out with ⟨_, h1, h2⟩ | ⟨h, _⟩
     ·exact ⟨h1, h2⟩
     ·cases h
    have HP := Lh hp; have bS : W3.heap[Bs]? = some (.cells #[.slice (some ⟨hb, 0, none⟩) 2 2] 110 (0, 0)) := hp.2.2.1.trans hbs.out; have bN : W3.heap[Bn]? = some (.cells #[.int .i64 2] 3 (0, 0)) := hp.2.2.2.trans hbn.out; have HBS := Lh bS; have HBN := Lh bN; have cN3 := cell_of_one bN; clear hp hpost bS bN cS cN
    gi_wp2
    go_roundw
    case rel => exact ⟨.inr ⟨rfl, HP.out.1⟩, HBS, HBN⟩
    case measure => simp [intOf]
   | false =>
    have hp : Jx [()] W3 := by
     rcases hpost.out with ⟨h, _⟩ | ⟨_, h1⟩
     ·cases h
     ·exact h1
    have HP := Lh hp; clear hp hpost
    gi_wp2
    refine bodyPost_ret (results_none rfl _ _ _) rfl ?_; exact ⟨⟨_, rfl⟩, .inr ⟨_, List.prefix_refl _, HP.out⟩⟩
  ·gi_wp2
   go_end0
   exact ⟨⟨_, rfl⟩, .inl ⟨_, rfl, hj.out⟩⟩
theorem chunk_stops (n Bs Bn n₀ hb : Nat) (w : World) (hBs : w.heap[Bs]? = some (.cells #[.slice (some ⟨hb, 0, none⟩) 2 2] 110 (0, 0))) (hBn : w.heap[Bn]? = some (.cells #[.int .i64 2] 3 (0, 0))) :
  SeqStopsK Fence.wide n Tryz.prog 175 #[.pointer (some ⟨Bs, 0, none⟩), .pointer (some ⟨Bn, 0, none⟩)] (encC hb) (KpC n₀ Bs Bn) (fun ys => ys = [()]) (fun pre => pre <+: [()]) 1 w := by
 intro lY J Jx W hW hJ hJx hY h0; exact chunk1_in n lY Bs Bn n₀ hb J Jx (fun pre x W h hl => hY pre x W h hl) W hJ ((hW.block Bs (lt_of_block hBs)).trans hBs) ((hW.block Bn (lt_of_block hBn)).trans hBn) h0
set_option maxHeartbeats 2000000 in
theorem chunk_any (hb : Nat) (w : World) {R : Ending -> World -> Prop} (hR : R (.returned (.func (.func 175) #[] #[.pointer (some ⟨w.heap.size, 0, none⟩), .pointer (some ⟨w.heap.size + 1, 0, none⟩)])) ((w.alloc (.cells #[.slice (some ⟨hb, 0, none⟩) 2 2] 110)).alloc (.cells #[.int .i64 2] 3))) :
  Calls Tryz.prog 127 #[.slice (some ⟨hb, 0, none⟩) 2 2, .int .i64 2] w R := by
 have HR := Lh hR; clear hR; have hmf : ∀ (fn : Fn) (first cap : Array Value) (w : World), (Instr.makeFunc fn first cap).run Tryz.prog w = .ok (.func fn first cap) w := fun _ _ _ _ => rfl
 go_enter Tryz.func127, Tryz.ntmps127
 go_wp2; exact HR.out
set_option maxHeartbeats 8000000 in
theorem heads_in (hb : Nat) (s1 s2 : ByteArray) (w : World) (hB : ∃ fr, w.heap[hb]? = some (.cells #[.string s1, .string s2] 9 fr)) :
  CallsIn Fence.wide 8 Tryz.prog 85 #[.slice (some ⟨hb, 0, none⟩) 2 2] w fun e W' => (∃ A c, e = .returned (.slice A 1 c)) /\ Grow w W' := by
 refine callsIn_of_wp_marks Tryz.func85 rfl trivial ?_ rfl; simp only [Tryz.ntmps85, List.size_toArray, List.length_cons, List.length_nil, Nat.reduceAdd, Nat.reduceSub, Array.replicate_succ, Array.replicate_zero, List.push_toArray, List.append_toArray, List.nil_append, List.cons_append]; obtain ⟨fr, hB⟩ := hB; have HB := Lh hB; have HLT : Hid (hb < w.heap.size) := lt_of_block hB; clear hB
 gi_wp2_with fail
 refine ⟨trivial, callsIn_wide.2 (chunk_any _ _ ?_)⟩; have hs0 : (((w.alloc (.cells #[.slice none 0 0] 70)).alloc (.cells #[.slice (some ⟨hb, 0, none⟩) 2 2] 110)).alloc (.cells #[.int .i64 2] 3)).heap.size = w.heap.size + 3 := by simp [World.size_alloc]
 have hG : Grow w (((w.alloc (.cells #[.slice none 0 0] 70)).alloc (.cells #[.slice (some ⟨hb, 0, none⟩) 2 2] 110)).alloc (.cells #[.int .i64 2] 3)) := (((Grow.refl w).al _).al _).al _; have hB0 : (((w.alloc (.cells #[.slice none 0 0] 70)).alloc (.cells #[.slice (some ⟨hb, 0, none⟩) 2 2] 110)).alloc (.cells #[.int .i64 2] 3)).heap[w.heap.size]? = some (.cells #[.slice none 0 0] 70 (0, 0)) := blk_alA (blk_alA (heap_alloc_new _ _) _) _
 have hB1 : (((w.alloc (.cells #[.slice none 0 0] 70)).alloc (.cells #[.slice (some ⟨hb, 0, none⟩) 2 2] 110)).alloc (.cells #[.int .i64 2] 3)).heap[w.heap.size + 1]? = some (.cells #[.slice (some ⟨hb, 0, none⟩) 2 2] 110 (0, 0)) := by
  have := heap_alloc_new (w.alloc (.cells #[.slice none 0 0] 70)) (.cells #[.slice (some ⟨hb, 0, none⟩) 2 2] 110); rw [World.size_alloc] at this; exact blk_alA this _
 have hB2 : (((w.alloc (.cells #[.slice none 0 0] 70)).alloc (.cells #[.slice (some ⟨hb, 0, none⟩) 2 2] 110)).alloc (.cells #[.int .i64 2] 3)).heap[w.heap.size + 2]? = some (.cells #[.int .i64 2] 3 (0, 0)) := by
  have := heap_alloc_new ((w.alloc (.cells #[.slice none 0 0] 70)).alloc (.cells #[.slice (some ⟨hb, 0, none⟩) 2 2] 110)) (.cells #[.int .i64 2] 3); rw [World.size_alloc, World.size_alloc] at this; exact this
 gi_wp2
 generalize ((w.alloc (.cells #[.slice none 0 0] 70)).alloc (.cells #[.slice (some ⟨hb, 0, none⟩) 2 2] 110)).alloc (.cells #[.int .i64 2] 3) = W0 at *
 refine wpIn_rangeFunc_ownH rfl (by decide) (gf := 175) (lb := #[.pointer (some ⟨w.heap.size + 1, 0, none⟩), .pointer (some ⟨w.heap.size + 2, 0, none⟩)]) rfl trivial (enters_of Tryz.func175 (by kernel_rfl) rfl)
  (chunk_stops _ (w.heap.size + 1) (w.heap.size + 2) w.heap.size hb W0 hB1 hB2) KpC.tr (KpC.put hG.size (by omega) (by omega)) (Below.refl _ _) (fun _ => rfl)
  (fun pre W => (∃ A c, W.heap[w.heap.size]? = some (.cells #[.slice A pre.length c] 70 (0, 0)) /\ (pre = [] -> A = none /\ c = 0)) /\ Below w.heap.size w W /\ W0.heap.size <= W.heap.size)
  (fun _ _ _ => False)
  (OwnFrom.and (fun s X Y row hs hg hr => by obtain ⟨A, c, h1, h2⟩ := hs; exact ⟨A, c, blk_own _ (fun (_ : Unit) => #[.slice A s.length c]) () X Y row h1 hg hr, h2⟩) (OwnFrom.and (ownFrom_below (Nat.le_refl _) (by omega)) (fun _ _ _ _ hs hg _ => Nat.le_trans hs hg.size)))
  (fun _ _ _ _ _ hs _ _ => hs)
  ⟨⟨none, 0, hB0, fun _ => ⟨rfl, rfl⟩⟩, hG, Nat.le_refl _⟩
  (fun x a' W => a' = { tmps := #[.slice (some ⟨hb, 0, none⟩) 2 2, undef, .slice none 0 0, .pointer (some ⟨w.heap.size, 0, none⟩), .slice (some ⟨hb, 0, none⟩) 2 2, .slice (some ⟨hb, 0, none⟩) 2 2, .func (.func 175) #[] #[.pointer (some ⟨w.heap.size + 1, 0, none⟩), .pointer (some ⟨w.heap.size + 2, 0, none⟩)], .slice (some ⟨hb, 0, none⟩) 2 2, undef, undef, undef, undef, undef, undef, undef], defers := [] })
  ?hAx ?assign ?body ?done ?stop
 case hAx =>
  intro x a' s X Y row hs hg hr; exact hs
 case assign =>
  rintro lY pre ⟨⟩ W K hI hK; have HK := Lh hK; have HI := Lh hI; clear hK hI; unfold encC
  gi_wp2
  exact HK.out _ _ ((KeepsOthers.refl _).from _) ⟨Below.refl _ _, rfl, rfl⟩ HI.out rfl
 case body =>
  rintro lY pre ⟨⟩ a' W hl hrec ⟨⟨A, c, hS, h0⟩, hGW, hZ⟩ rfl hlt; obtain rfl : pre = [] := List.eq_nil_of_length_eq_zero (by omega); obtain ⟨rfl, rfl⟩ := h0 rfl; have c0 : W.cell? ⟨w.heap.size, 0, none⟩ = some (.slice none 0 0) := cell_of_one hS; have f0 := free_of_one hS; have hb1 : W.heap[hb]? = some (.cells #[.string s1, .string s2] 9 fr) := (hGW.block hb HLT.out).trans HB.out; have e1 : W.cell? ⟨hb, 0, none⟩ = some (.string s1) := cell_of_row _ _ 0 _ _ _ hb1; have e2 : W.cell? ⟨hb, 1, none⟩ = some (.string s2) := cell_of_row _ _ 1 _ _ _ hb1; have HS := Lh hS; have HGW := Lh hGW
  have HZ := Lh hZ; clear hS hGW hZ hb1 hrec hl h0 hlt
  have har : ∀ W, (Instr.arrayAt 177 (.slice (some ⟨hb, 0, none⟩) 2 2)).run Tryz.prog W = .ok (.pointer (some ⟨hb, 0, none⟩)) W := fun W => by
   simp [Instr.arrayAt, run_underlying Tryz.underlying177]
  have LE : w.heap.size + 3 <= W.heap.size := by have := HZ.out; omega
  have k1 : ∀ o, (W.alloc o).cell? ⟨w.heap.size, 0, none⟩ = some (.slice none 0 0) := fun o => cell_of_one (blk_alA HS.out o)
  have k2 : ∀ o o', ((W.alloc o).alloc o').cell? ⟨w.heap.size, 0, none⟩ = some (.slice none 0 0) := fun o o' => cell_of_one (blk_alA (blk_alA HS.out o) o')
  have hk : ∀ o o', ((W.alloc o).alloc o').heap[w.heap.size]? = some (.cells #[.slice none 0 0] 70 (0, 0)) := fun o o' => blk_alA (blk_alA HS.out o) o'
  have f2 : ∀ o o', ((W.alloc o).alloc o').frozen? ⟨w.heap.size, 0, none⟩ = false := fun o o' => free_of_one (hk o o')
  have FIN : Hid (∀ A c o o', KeepsFrom W0.heap.size W (((W.alloc o).alloc o').setCell ⟨w.heap.size, 0, none⟩ (.slice A 1 c)).drew.drew /\ KpC w.heap.size (w.heap.size + 1) (w.heap.size + 2) W (((W.alloc o).alloc o').setCell ⟨w.heap.size, 0, none⟩ (.slice A 1 c)).drew.drew /\
    ((∃ A' c', (((W.alloc o).alloc o').setCell ⟨w.heap.size, 0, none⟩ (.slice A 1 c)).drew.drew.heap[w.heap.size]? = some (.cells #[.slice A' 1 c'] 70 (0, 0)) /\ (([()] : List Unit) = [] -> A' = none /\ c' = 0)) /\ Below w.heap.size w (((W.alloc o).alloc o').setCell ⟨w.heap.size, 0, none⟩ (.slice A 1 c)).drew.drew /\ W0.heap.size <= (((W.alloc o).alloc o').setCell ⟨w.heap.size, 0, none⟩ (.slice A 1 c)).drew.drew.heap.size)) := by
   intro A c o o'; have B1 : Below w.heap.size W (((W.alloc o).alloc o').setCell ⟨w.heap.size, 0, none⟩ (.slice A 1 c)).drew.drew := (((((Below.refl w.heap.size W).alloc (by omega) _).alloc (by rw [World.size_alloc]; omega) _).setCell (p := ⟨w.heap.size, 0, none⟩) (show w.heap.size <= w.heap.size from Nat.le_refl _) _).drew).drew
   have O1 : ∀ k, k < W.heap.size -> k ≠ w.heap.size -> (((W.alloc o).alloc o').setCell ⟨w.heap.size, 0, none⟩ (.slice A 1 c)).drew.drew.heap[k]? = W.heap[k]? := fun k h1 h2 => (lv_oth _ _ _ _ h2).trans ((Below.heap_alloc _ _ _ (by rw [World.size_alloc]; omega)).trans (Below.heap_alloc _ _ _ h1))
   refine ⟨(((((KeepsOthers.alloc _ _).trans (KeepsOthers.alloc _ _)).trans (KeepsOthers.setCell _ _ _)).trans (KeepsOthers.drew _)).trans (KeepsOthers.drew _)).from _, ⟨B1, O1 _ (by omega) (by omega), O1 _ (by omega) (by omega)⟩, ⟨A, c, blk_setA (hk o o') 0 _, fun h => (by cases h)⟩, HGW.out.trans B1, ?_⟩; exact Nat.le_trans HZ.out B1.size
  clear hk LE
  gi_wp2
  gi_region
  all_goals gi_wp2
  all_goals exact FIN.out _ _ _ _
 case done =>
  rintro D xs W hD hxs ⟨⟨A, c, hS, h0⟩, hGW, hZ⟩ hK; obtain rfl := hxs; have cS := cell_of_one hS; clear hS h0
  gi_wp2
  refine ⟨by simp, .inl ⟨_, _, rfl, run_takeDeferred hK, ?_⟩⟩; refine ⟨.slice A 1 c, by simp [results, go_sem], ⟨A, c, rfl⟩, hGW.trans (belowK_b (w := w) (Nat.le_refl _) W D _ _ (by omega) hK rfl rfl)⟩
 case stop =>
  rintro D c pre W _ _ h _; exact h.elim
theorem heads_q (hb : Nat) (s1 s2 : ByteArray) (w : World) (hB : ∃ fr, w.heap[hb]? = some (.cells #[.string s1, .string s2] 9 fr)) {R : Ending -> World -> Prop} (hR : ∀ A c w', Grow w w' -> R (.returned (.slice A 1 c)) w') :
  Calls Tryz.prog 85 #[.slice (some ⟨hb, 0, none⟩) 2 2] w R := by
 refine (callsIn_wide.1 (heads_in hb s1 s2 w hB)).mono ?_; rintro e W' ⟨⟨A, c, rfl⟩, hg⟩; exact hR A c _ hg
end Go.Proofs.YteeeeddeacepmaaGreatDoor
