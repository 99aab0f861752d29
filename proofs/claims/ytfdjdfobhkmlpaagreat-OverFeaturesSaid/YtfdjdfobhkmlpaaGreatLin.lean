import Derived.Test.YtfdjdfobhkmlpaaGreatRngA
namespace Go.Proofs.YtfdjdfobhkmlpaaGreat
set_option maxRecDepth 100000
open Go.RowKit B
structure Wn where
 n : Int
 d : Int
 c : Int
 up : Bool
 en : Bool
def Wn.cells (a : Wn) : List Value := [.int .i64 a.n, .int .i64 a.d, .int .i64 a.c, .bool a.up, .bool a.en]
def Wn.ok (a : Wn) : Prop := I64 a.n /\ I64 a.d
def Wn.after (a b : Wn) : Bool := decide (0 < cmpW a.n b.d b.n a.d)
set_option maxHeartbeats 1000000 in
theorem after_any (a b : Wn) (ha : a.ok) (hb : b.ok) (w : World) {R : Ending -> World -> Prop} (hR : ∀ w', Grow w w' -> R (.returned (.bool (a.after b))) w') :
  Calls Tryz.prog 110 #[.agg a.cells.toArray, .agg b.cells.toArray] w R := by
 have HR := Lh hR; have WC := Lh fun W (R : Ending -> World -> Prop) hR => wcmp_any a.n b.d b.n a.d ha.1 hb.2 hb.1 ha.2 W (R := R) hR
 unfold Wn.after at HR; generalize cmpW a.n b.d b.n a.d = m at *; clear hR ha hb; obtain ⟨an, ad, ac, au, ae⟩ := a; obtain ⟨bn, bd, bc, bu, be⟩ := b; unfold Wn.cells; dsimp only at WC ⊢
 obtain ⟨wa, hwa⟩ : ∃ wa, wa = (w.alloc (.cells #[.int .i64 an, .int .i64 ad, .int .i64 ac, .bool au, .bool ae] 138)).alloc (.cells #[.int .i64 bn, .int .i64 bd, .int .i64 bc, .bool bu, .bool be] 138) := ⟨_, rfl⟩
 have BA : Hid (BoxH w w.heap.size #[.int .i64 an, .int .i64 ad, .int .i64 ac, .bool au, .bool ae] 138 wa) := by
  rw [hwa]; exact (BoxH.laid #[.int .i64 an, .int .i64 ad, .int .i64 ac, .bool au, .bool ae] 138 (Grow.refl w)).tr ((Grow.refl _).al _)
 have BB : Hid (BoxH w (w.heap.size + 1) #[.int .i64 bn, .int .i64 bd, .int .i64 bc, .bool bu, .bool be] 138 wa) := by
  have := BoxH.laid (w := w.alloc (.cells #[.int .i64 an, .int .i64 ad, .int .i64 ac, .bool au, .bool ae] 138)) #[.int .i64 bn, .int .i64 bd, .int .i64 bc, .bool bu, .bool be] 138 ((Grow.refl w).al _); rw [World.size_alloc] at this; rw [hwa]; exact this
 have HWA := Lh hwa; clear hwa; have a0 := BA.out.cell 0; have a1 := BA.out.cell 1; have b0 := BB.out.cell 0; have b1 := BB.out.cell 1; go_enter Tryz.func110, Tryz.ntmps110
 go_upto_region 1 with fail
 rw [<- HWA.out]; clear HWA; go_wp2_with fail
 clear a0 a1 b0 b1; go_at_call 119; refine WC.out _ _ ?_; intro w1 hg1; have G1 := Lh (BA.out.grow.tr hg1); clear hg1; go_wp2; exact HR.out _ G1.out
set_option maxHeartbeats 1000000 in
theorem insideL_any (p : Pt) (lo hi : Int) (w : World) {R : Ending -> World -> Prop} (hR : ∀ w', Grow w w' -> R (.returned (.bool (p.inside lo hi))) w') : Calls Tryz.prog 38 #[.agg p.cells.toArray, .int .i64 lo, .int .i64 hi] w R := by
 have HR : ∀ b, p.inside lo hi = b -> ∀ w', Grow w w' -> R (.returned (.bool b)) w' := by rintro b rfl; exact hR
 have HR := Lh HR; clear hR; obtain ⟨x, y⟩ := p; unfold Pt.cells; dsimp only
 cases h1 : decide (lo <= x)
 ·go_enter Tryz.func38, Tryz.ntmps38
  go_wp2; refine HR.out _ (by simp [Pt.inside, h1]) _ ((Grow.refl w).al _)
 ·cases h2 : decide (x <= hi)
  ·go_enter Tryz.func38, Tryz.ntmps38
   go_wp2; refine HR.out _ (by simp [Pt.inside, h1, h2]) _ ((Grow.refl w).al _)
  ·cases h3 : decide (lo <= y)
   ·go_enter Tryz.func38, Tryz.ntmps38
    go_wp2; refine HR.out _ (by simp [Pt.inside, h1, h2, h3]) _ ((Grow.refl w).al _)
   ·go_enter Tryz.func38, Tryz.ntmps38
    go_wp2; refine HR.out _ (by simp [Pt.inside, h1, h2, h3]) _ ((Grow.refl w).al _)
set_option maxHeartbeats 1000000 in
theorem spotL_any (p : Pt) (w : World) {R : Ending -> World -> Prop} (hR : ∀ w', Grow w w' -> R (.returned (.agg #[.int .i64 p.x, .int .u64 0, .int .u64 1, .int .i64 p.y, .int .u64 0, .int .u64 1])) w') :
  Calls Tryz.prog 63 #[.agg p.cells.toArray] w R := by
 have HR := Lh hR; clear hR; obtain ⟨x, y⟩ := p; have OX := Lh fun W (R : Ending -> World -> Prop) hR => of23_any x W (R := R) hR
 have OY := Lh fun W (R : Ending -> World -> Prop) hR => of23_any y W (R := R) hR
 unfold Pt.cells; dsimp only at HR ⊢
 obtain ⟨wa, hwa⟩ : ∃ wa, wa = (w.alloc (.cells #[.int .i64 x, .int .i64 y] 39)).alloc (.cells #[.int .i64 0, .int .u64 0, .int .u64 0, .int .i64 0, .int .u64 0, .int .u64 0] 109) := ⟨_, rfl⟩
 have BP : Hid (BoxH w w.heap.size #[.int .i64 x, .int .i64 y] 39 wa) := by
  rw [hwa]; exact (BoxH.laid #[.int .i64 x, .int .i64 y] 39 (Grow.refl w)).tr ((Grow.refl _).al _)
 have BR : Hid (BoxH w (w.heap.size + 1) #[.int .i64 0, .int .u64 0, .int .u64 0, .int .i64 0, .int .u64 0, .int .u64 0] 109 wa) := by
  have := BoxH.laid (w := w.alloc (.cells #[.int .i64 x, .int .i64 y] 39)) #[.int .i64 0, .int .u64 0, .int .u64 0, .int .i64 0, .int .u64 0, .int .u64 0] 109 ((Grow.refl w).al _); rw [World.size_alloc] at this; rw [hwa]; exact this
 have HWA := Lh hwa; clear hwa; go_enter Tryz.func63, Tryz.ntmps63
 go_upto_region 1 with fail
 rw [<- HWA.out]; clear HWA; go_wp2_with fail
 refine wp_region_lexT (fun W => BoxH w w.heap.size #[.int .i64 x, .int .i64 y] 39 W /\ BoxH w (w.heap.size + 1) #[.int .i64 0, .int .u64 0, .int .u64 0, .int .i64 0, .int .u64 0, .int .u64 0] 109 W) (⟨BP.out.tr (Grow.refl _).dr, BR.out.tr (Grow.refl _).dr⟩) 5 [0, 1, 3, 4, 2] (by kernel_rfl) (by kernel_rfl) (by intro c a d v w h; cases d <;> exact h) ?_
 iterate 4 (apply lext_take; exact rfl; exact rfl; (intro W hW; have p0 := hW.1.cell 0; have p1 := hW.1.cell 1; (try clear hW); go_simp; with_reducible rfl); try simp only [Act.put, sA, sZ, sS])
 have BR := Lh (BR.out.tr (Grow.refl _).dr); have BP := Lh (BP.out.tr (Grow.refl _).dr); apply lext_turn; exact rfl; exact rfl; exact rfl; intro K hK; go_simp; go_at_call 69; refine OX.out _ _ ?_; intro w5 hg5; have BR := Lh (BR.out.tr hg5); have BP := Lh (BP.out.tr hg5); refine hK.out _ _ ⟨BP.out, BR.out⟩ ?_; clear hK hg5
 try simp only [Act.put, sA, sZ, sS]
 refine lext_nil ?_; simp only [List.drop_succ_cons, List.drop_zero]; go_wp2_with fail
 go_at_call 69; refine OY.out _ _ ?_; intro w5 hg5; have BR := Lh (BR.out.tr hg5); clear hg5; have z0 := BR.out.cell 0; have g0 := BR.out.free 0; have B1 := Lh (BR.out.set 0 (.int .i64 x)); have z1 := B1.out.cell 1; have g1 := B1.out.free 1; have B2 := Lh (B1.out.set 1 (.int .u64 0)); have z2 := B2.out.cell 2; have g2 := B2.out.free 2; have B3 := Lh (B2.out.set 2 (.int .u64 1)); have z3 := B3.out.cell 3; have g3 := B3.out.free 3; have B4 := Lh (B3.out.set 3 (.int .i64 y)); have z4 := B4.out.cell 4; have g4 := B4.out.free 4
 have B5 := Lh (B4.out.set 4 (.int .u64 0)); have z5 := B5.out.cell 5; have g5 := B5.out.free 5; have B6 := Lh (B5.out.set 5 (.int .u64 1)); go_wp2; have k0 := B6.out.cell 0; have k1 := B6.out.cell 1; have k2 := B6.out.cell 2; have k3 := B6.out.cell 3; have k4 := B6.out.cell 4; have k5 := B6.out.cell 5
 exact bodyPost_ret (v := .agg #[.int .i64 x, .int .u64 0, .int .u64 1, .int .i64 y, .int .u64 0, .int .u64 1]) (by simp only [sA, sZ, sS] at k0 k1 k2 k3 k4 k5; simp [results, Tryz.f63, go_sem, k0, k1, k2, k3, k4, k5]) rfl (HR.out _ B6.out.grow)
/- numbers out of range -/
def idxN (l : List Int) : Int := match l.findIdx? (fun n => !inw n) with | some i => (i : Int) | none => -1
def INTS (l : List Int) : List Value := l.map fun n => .int .i64 n
theorem idxN_none {l : List Int} (h : ∀ q ∈ l.take l.length, (!inw q) = false) : idxN l = -1 := by
 rw [List.take_length] at h; have : l.findIdx? (fun n => !inw n) = none := by rw [List.findIdx?_eq_none_iff]; exact h
 simp [idxN, this]
theorem idxN_some {l : List Int} {k : Nat} (hk : k < l.length) (h : ∀ q ∈ l.take k, (!inw q) = false) (hx : (!inw l[k]) = true) : idxN l = k := by
 have : l.findIdx? (fun n => !inw n) = some k := by
  rw [List.findIdx?_eq_some_iff_getElem]; refine ⟨hk, hx, fun j hj => ?_⟩; rw [h l[j] (by rw [List.mem_take_iff_getElem]; exact ⟨j, by omega, rfl⟩)]; simp
 simp [idxN, this]
theorem idxN_any (l : List Int) : (0 <= idxN l /\ l.any (fun n => !inw n) = true) ∨ (idxN l = -1 /\ l.any (fun n => !inw n) = false) := by
 unfold idxN
 cases h : l.findIdx? (fun n => !inw n) with
 | none =>
  right
  rw [List.findIdx?_eq_none_iff] at h; refine ⟨rfl, ?_⟩; rw [List.any_eq_false]; intro p hp; simpa using h p hp
 | some i =>
  left
  refine ⟨by show (0 : Int) <= i; omega, ?_⟩; obtain ⟨hi, hx, _⟩ := List.findIdx?_eq_some_iff_getElem.1 h; rw [List.any_eq_true]; exact ⟨l[i], List.getElem_mem hi, hx⟩
set_option maxHeartbeats 2000000 in
theorem indexN_any (l : List Int) (v : Value) (S : Nat -> Prop) (w : World) (hb : Rd w S 1 v l.length (INTS l)) {R : Ending -> World -> Prop}
  (hR : ∀ w', Grow w w' -> R (.returned (.int .i64 (idxN l))) w') :
  Calls Tryz.prog 109 #[v, .func (.func 59) #[] #[]] w R := by
 have HR := Lh hR; clear hR; have hb := hb.lt (by decide); obtain ⟨_, A, c, rfl, k1, k2, k3, k4⟩ := hb; unfold maxLen at k2; go_enter Tryz.func109, Tryz.ntmps109
 go_wp2
 go_loopw [8] (fun i wr => ∃ (k : Nat), k <= l.length /\ i = .int .i64 k /\ Hid (∀ q ∈ l.take k, (!inw q) = false) /\ Hid (Grow w wr)) (fun i _ => l.length - (intOf i).toNat)
 case atStart => exact ⟨0, Nat.zero_le _, rfl, fun q hq => by simp at hq, Grow.refl _⟩
 case round =>
  obtain ⟨k, hk, rfl, hall, hg⟩ := hrel
  by_cases hlt : k < l.length
  ·obtain ⟨b, o, rfl, hS, hc⟩ := k4 (by omega)
   have c1 : wr.cell? ⟨b, o + k, none⟩ = some (.int .i64 (l[k]'hlt)) := grow_cell hg.out (hc k _ (by simp [INTS, hlt])); clear hc k4 k3; have NX : Hid ((!inw (l[k]'hlt)) = false -> ∀ q ∈ l.take (k + 1), (!inw q) = false) := take_all_succ hlt hall.out; have FD : Hid ((!inw (l[k]'hlt)) = true -> idxN l = k) := idxN_some hlt hall.out; have HI := Lh fun W (R : Ending -> World -> Prop) hR => farL_any (l[k]'hlt) W (R := R) hR
   generalize (!inw (l[k]'hlt)) = bi at *; generalize l[k]'hlt = x at *
   cases bi with
   | false =>
    go_wp2_with (go_at_call 59; refine HI.out _ _ ?_)
    go_roundw
    case rel => exact ⟨k + 1, by omega, by go_num, NX.out (by first | rfl | trivial), hg.out⟩
    case measure => simp [intOf]; omega
   | true =>
    go_wp2_with (go_at_call 59; refine HI.out _ _ ?_)
    have h := HR.out _ hg.out; rw [FD.out (by first | rfl | trivial)] at h; exact h
  ·obtain rfl : k = l.length := by omega
   go_wp2; have h := HR.out _ hg.out; rw [idxN_none hall.out] at h; exact h
set_option maxHeartbeats 1000000 in
theorem containsN_any (l : List Int) (v : Value) (S : Nat -> Prop) (w : World) (hb : Rd w S 1 v l.length (INTS l)) {R : Ending -> World -> Prop}
  (hR : ∀ w', Grow w w' -> R (.returned (.bool (l.any fun n => !inw n))) w') :
  Calls Tryz.prog 87 #[v, .func (.func 59) #[] #[]] w R := by
 have HR := Lh hR; have HX := Lh fun (R : Ending -> World -> Prop) hR => indexN_any l v S w hb (R := R) hR
 clear hR hb
 rcases idxN_any l with ⟨h1, h2⟩ | ⟨h1, h2⟩
 ·rw [h2] at HR
  generalize idxN l = i at *; clear h2; go_enter Tryz.func87, Tryz.ntmps87
  go_wp2_with (go_at_call 109; refine HX.out _ ?_; intro w1 hg1)
  exact HR.out _ hg1
 ·rw [h2] at HR
  rw [h1] at HX; clear h1 h2; go_enter Tryz.func87, Tryz.ntmps87
  go_wp2_with (go_at_call 109; refine HX.out _ ?_; intro w1 hg1)
  exact HR.out _ hg1
end Go.Proofs.YtfdjdfobhkmlpaaGreat
