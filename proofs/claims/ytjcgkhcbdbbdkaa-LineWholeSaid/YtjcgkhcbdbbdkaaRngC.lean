/-
  Rings clipped at a window: one half.
-/
import Derived.Test.YtjcgkhcbdbbdkaaChecked
import Derived.Test.YtjcgkhcbdbbdkaaRngX
namespace Go.Proofs.Ytjcgkhcbdbbdkaa
open Go.RowKit B

def Hf.clip1 (h : Hf) (n m : Node) : List Node :=
  (if h.has n.s = true then [n] else []) ++ (if h.has n.s = true then (if h.has m.s = true then [] else [⟨h.cross n, ⟨0, 0⟩, ⟨0, 0⟩, true⟩]) else (if h.has m.s = true then [⟨h.cross n, n.p, n.q, n.pl⟩] else []))
def cycAt {α β : Type} (f : α → α → List β) (l : List α) (i : Nat) : List β :=
  match l[i]?, l[(i + 1) % l.length]? with
  | some n, some m => f n m
  | _, _ => []
def cycTo {α β : Type} (f : α → α → List β) (l : List α) (k : Nat) : List β := (List.range k).flatMap (cycAt f l)
theorem cycTo_succ {α β : Type} (f : α → α → List β) (l : List α) (k : Nat) (hk : k < l.length) (hm : (k + 1) % l.length < l.length) : cycTo f l (k + 1) = cycTo f l k ++ f (l[k]) (l[(k + 1) % l.length]) := by
  unfold cycTo
  rw [List.range_succ, List.flatMap_append]
  congr 1
  simp [cycAt, List.getElem?_eq_getElem hk, List.getElem?_eq_getElem hm]
theorem Hf.clip1_len (h : Hf) (n m : Node) : (h.clip1 n m).length ≤ 2 := by
  unfold Hf.clip1
  split <;> split <;> simp
theorem cycTo_len (h : Hf) (l : List Node) : ∀ k, (cycTo h.clip1 l k).length ≤ 2 * k
  | 0 => by simp [cycTo]
  | k + 1 => by
    have := cycTo_len h l k
    unfold cycTo at this ⊢
    rw [List.range_succ, List.flatMap_append, List.length_append]
    have h2 : ([k].flatMap (cycAt h.clip1 l)).length ≤ 2 := by
      simp only [List.flatMap_cons, List.flatMap_nil, List.append_nil]
      unfold cycAt
      split
      · exact h.clip1_len _ _
      · simp
    omega
def Hf.clip (h : Hf) (l : List Node) : List Node := cycTo h.clip1 l l.length

theorem el_node : Elem Try.prog 94 99 (.agg #[.int .i64 0, .int .u64 0, .int .u64 0, .int .i64 0, .int .u64 0, .int .u64 0, .int .i64 0, .int .i64 0, .int .i64 0, .int .i64 0, .bool false]) 11 88 := ⟨by kernel_rfl, by kernel_rfl, rfl, by decide, by decide⟩

set_option maxRecDepth 100000 in
set_option maxHeartbeats 1000000 in
theorem hclip_any (h : Hf) (l : List Node) (v : Value) (S : Nat → Prop) (w : World) (hb : Rd w S 11 v l.length (Nodes l)) (hl : l.length ≤ 100000) (hok : ∀ n ∈ l, n.s.ok) {R : Ending → World → Prop}
    (hR : ∀ r w', w'.ownsRow w.heap.size 99 11 r (h.clip l).length (Nodes (h.clip l)) → Grow w w' → R (.returned r) w') :
    Calls Try.prog 51 #[.agg h.cells.toArray, v] w R := by
  have HR := Lib.hid hR
  have HOK := Lib.hid hok
  have hb := hb.lt (by decide)
  obtain ⟨_, A, c, rfl, h1, h2, h3, h4⟩ := hb
  unfold maxLen at h2
  clear hR hok
  have HS := Lib.hid fun (n : Node) (hn : n.s.ok) W (R : Ending → World → Prop) hR => has_any h n.s W hn (R := R) hR
  have XC := Lib.hid fun (n : Node) W (R : Ending → World → Prop) hR => ncross_any h n W (R := R) hR
  have G1 : Grow w (w.alloc (.cells h.cells.toArray 101)) := (Grow.refl w).al _
  have BH := Lib.hid (BoxH.laid h.cells.toArray 101 (Grow.refl w))
  have GA := Lib.hid G1
  have LW : Hid (w.heap.size < (w.alloc (.cells h.cells.toArray 101)).heap.size) := BH.out.lt
  have HSZ : Hid (w.heap.size ≤ (w.alloc (.cells h.cells.toArray 101)).heap.size) := G1.size
  go_enter Try.func51, Try.ntmps51
  go_upto_region 1 with fail
  generalize w.alloc (.cells h.cells.toArray 101) = w1 at *
  go_wp2
  go_loopw [13, 5] (fun i s wr => ∃ (k : Nat), k ≤ l.length ∧ i = .int .i64 k ∧ wr.ownsRow w1.heap.size 99 11 s (cycTo h.clip1 l k).length (Nodes (cycTo h.clip1 l k)) ∧ Hid (Grow w1 wr)) (fun i _ _ => l.length - (intOf i).toNat)
  case atStart => exact ⟨0, Nat.zero_le _, rfl, World.ownsRow_nil _ _ _ _, Grow.refl _⟩
  case round =>
    obtain ⟨k, hk, rfl, hown, hg⟩ := hrel
    by_cases hlt : k < l.length
    · obtain ⟨b, o, rfl, hS, hc⟩ := h4 (by omega)
      have hm : (k + 1) % l.length < l.length := Nat.mod_lt _ (by omega)
      have e0 := fun W (h : Grow w W) => flat_cells Node.cells_len h hS hc hlt
      have e1 := fun W (h : Grow w W) => flat_cells Node.cells_len h hS hc hm
      have CS := Lib.hid (cycTo_succ h.clip1 l k hlt hm)
      have CL := Lib.hid (cycTo_len h l k)
      have O1 := Lib.hid (HOK.out l[k] (List.getElem_mem hlt))
      have O2 := Lib.hid (HOK.out l[(k + 1) % l.length] (List.getElem_mem hm))
      have w1' : IntKind.i64.wrap ((k : Int) + 1) = (k : Int) + 1 := IntWalk.i64_in _ (by omega)
      have w2 : ((k : Int) + 1).tmod (l.length : Int) = (((k + 1) % l.length : Nat) : Int) := by
        rw [Int.tmod_eq_emod_of_nonneg (by omega)]; exact (Int.natCast_emod (k + 1) l.length).symm
      have w3 : ((k : Int) + 1) % (l.length : Int) = (((k + 1) % l.length : Nat) : Int) := (Int.natCast_emod (k + 1) l.length).symm
      have z1 : ((l.length : Int) == 0) = false := by rw [beq_eq_false_iff_ne]; omega
      have z2 : ¬ (l.length : Int) = 0 := by omega
      have z3 : ¬ l = [] := by rintro rfl; simp at hlt
      have HO := Lib.hid hown
      have GW := Lib.hid (GA.out.tr hg.out)
      have BH := Lib.hid (BH.out.tr hg.out)
      have OL := Lib.hid fun kk hk => (hown.lt kk hk).2
      clear hc h4 h3 hown
      obtain ⟨m, hmm⟩ : ∃ m, (k + 1) % l.length = m := ⟨_, rfl⟩
      simp only [hmm] at *
      obtain ⟨acc, hacc⟩ : ∃ acc, cycTo h.clip1 l k = acc := ⟨_, rfl⟩
      simp only [hacc] at *
      generalize l[k] = x at *
      generalize l[m] = y at *
      have CC : cycTo h.clip1 l (k + 1) = acc ++ ((if h.has x.s = true then [x] else []) ++ (if h.has x.s = true then (if h.has y.s = true then [] else [⟨h.cross x, ⟨0, 0⟩, ⟨0, 0⟩, true⟩]) else (if h.has y.s = true then [⟨h.cross x, x.p, x.q, x.pl⟩] else []))) := CS.out
      have CS := Lib.hid CC
      clear CC
      have HX := Lib.hid (HS.out x O1.out)
      have HY := Lib.hid (HS.out y O2.out)
      have CX := Lib.hid (XC.out x)
      obtain ⟨b1, hb1⟩ : ∃ b, h.has x.s = b := ⟨_, rfl⟩
      obtain ⟨b2, hb2⟩ : ∃ b, h.has y.s = b := ⟨_, rfl⟩
      obtain ⟨z, hz⟩ : ∃ z, h.cross x = z := ⟨_, rfl⟩
      simp only [hb1, hb2, hz] at CS HX HY CX
      clear hb1 hb2 hz hmm hacc O1 O2 HS XC
      obtain ⟨⟨⟨xq1, xr1, xd1⟩, ⟨xq2, xr2, xd2⟩⟩, ⟨xa, xb⟩, ⟨xc, xe⟩, xp⟩ := x
      obtain ⟨⟨⟨yq1, yr1, yd1⟩, ⟨yq2, yr2, yd2⟩⟩, ⟨ya, yb⟩, ⟨yc, ye⟩, yp⟩ := y
      obtain ⟨⟨zq1, zr1, zd1⟩, ⟨zq2, zr2, zd2⟩⟩ := z
      obtain ⟨hc, hu, ha⟩ := h
      unfold Spot.cells Hf.cells at HX HY CX
      unfold Node.cells at CX
      unfold Hf.cells at BH
      dsimp only at HX HY CX BH
      have GB := Lib.hid (GW.out.al (.cells #[.int .i64 xq1, .int .u64 (xr1 : Nat), .int .u64 (xd1 : Nat), .int .i64 xq2, .int .u64 (xr2 : Nat), .int .u64 (xd2 : Nat), .int .i64 xa, .int .i64 xb, .int .i64 xc, .int .i64 xe, .bool xp] 99))
      have x0 := e0 wr GW.out 0 _ rfl
      have x1 := e0 wr GW.out 1 _ rfl
      have x2 := e0 wr GW.out 2 _ rfl
      have x3 := e0 wr GW.out 3 _ rfl
      have x4 := e0 wr GW.out 4 _ rfl
      have x5 := e0 wr GW.out 5 _ rfl
      have x6 := e0 wr GW.out 6 _ rfl
      have x7 := e0 wr GW.out 7 _ rfl
      have x8 := e0 wr GW.out 8 _ rfl
      have x9 := e0 wr GW.out 9 _ rfl
      have x10 := e0 wr GW.out 10 _ rfl
      have y0 := e1 _ GB.out 0 _ rfl
      have y1 := e1 _ GB.out 1 _ rfl
      have y2 := e1 _ GB.out 2 _ rfl
      have y3 := e1 _ GB.out 3 _ rfl
      have y4 := e1 _ GB.out 4 _ rfl
      have y5 := e1 _ GB.out 5 _ rfl
      have y6 := e1 _ GB.out 6 _ rfl
      have y7 := e1 _ GB.out 7 _ rfl
      have y8 := e1 _ GB.out 8 _ rfl
      have y9 := e1 _ GB.out 9 _ rfl
      have y10 := e1 _ GB.out 10 _ rfl
      simp only [Nat.add_zero] at x0 y0
      clear e0 e1
      go_upto_region 6 with fail
      clear x0 x1 x2 x3 x4 x5 x6 x7 x8 x9 x10 y0 y1 y2 y3 y4 y5 y6 y7 y8 y9 y10 z1 z2 z3 w1' w2 w3
      have BN := Lib.hid ((BoxH.laid #[.int .i64 xq1, .int .u64 (xr1 : Nat), .int .u64 (xd1 : Nat), .int .i64 xq2, .int .u64 (xr2 : Nat), .int .u64 (xd2 : Nat), .int .i64 xa, .int .i64 xb, .int .i64 xc, .int .i64 xe, .bool xp] 99 hg.out).tr ((Grow.refl _).al (.cells #[.int .i64 yq1, .int .u64 (yr1 : Nat), .int .u64 (yd1 : Nat), .int .i64 yq2, .int .u64 (yr2 : Nat), .int .u64 (yd2 : Nat), .int .i64 ya, .int .i64 yb, .int .i64 yc, .int .i64 ye, .bool yp] 99)))
      have BM : Hid (BoxH w1 (wr.heap.size + 1) #[.int .i64 yq1, .int .u64 (yr1 : Nat), .int .u64 (yd1 : Nat), .int .i64 yq2, .int .u64 (yr2 : Nat), .int .u64 (yd2 : Nat), .int .i64 ya, .int .i64 yb, .int .i64 yc, .int .i64 ye, .bool yp] 99 ((wr.alloc (.cells #[.int .i64 xq1, .int .u64 (xr1 : Nat), .int .u64 (xd1 : Nat), .int .i64 xq2, .int .u64 (xr2 : Nat), .int .u64 (xd2 : Nat), .int .i64 xa, .int .i64 xb, .int .i64 xc, .int .i64 xe, .bool xp] 99)).alloc (.cells #[.int .i64 yq1, .int .u64 (yr1 : Nat), .int .u64 (yd1 : Nat), .int .i64 yq2, .int .u64 (yr2 : Nat), .int .u64 (yd2 : Nat), .int .i64 ya, .int .i64 yb, .int .i64 yc, .int .i64 ye, .bool yp] 99))) := by
        have := BoxH.laid (w := wr.alloc (.cells #[.int .i64 xq1, .int .u64 (xr1 : Nat), .int .u64 (xd1 : Nat), .int .i64 xq2, .int .u64 (xr2 : Nat), .int .u64 (xd2 : Nat), .int .i64 xa, .int .i64 xb, .int .i64 xc, .int .i64 xe, .bool xp] 99)) #[.int .i64 yq1, .int .u64 (yr1 : Nat), .int .u64 (yd1 : Nat), .int .i64 yq2, .int .u64 (yr2 : Nat), .int .u64 (yd2 : Nat), .int .i64 ya, .int .i64 yb, .int .i64 yc, .int .i64 ye, .bool yp] 99 (hg.out.al (.cells #[.int .i64 xq1, .int .u64 (xr1 : Nat), .int .u64 (xd1 : Nat), .int .i64 xq2, .int .u64 (xr2 : Nat), .int .u64 (xd2 : Nat), .int .i64 xa, .int .i64 xb, .int .i64 xc, .int .i64 xe, .bool xp] 99))
        rw [World.size_alloc] at this
        exact this
      have BH := Lib.hid (BH.out.tr (((Grow.refl wr).al (.cells #[.int .i64 xq1, .int .u64 (xr1 : Nat), .int .u64 (xd1 : Nat), .int .i64 xq2, .int .u64 (xr2 : Nat), .int .u64 (xd2 : Nat), .int .i64 xa, .int .i64 xb, .int .i64 xc, .int .i64 xe, .bool xp] 99)).al (.cells #[.int .i64 yq1, .int .u64 (yr1 : Nat), .int .u64 (yd1 : Nat), .int .i64 yq2, .int .u64 (yr2 : Nat), .int .u64 (yd2 : Nat), .int .i64 ya, .int .i64 yb, .int .i64 yc, .int .i64 ye, .bool yp] 99)))
      have HO := Lib.hid (own_grow HO.out (((Grow.refl wr).al (.cells #[.int .i64 xq1, .int .u64 (xr1 : Nat), .int .u64 (xd1 : Nat), .int .i64 xq2, .int .u64 (xr2 : Nat), .int .u64 (xd2 : Nat), .int .i64 xa, .int .i64 xb, .int .i64 xc, .int .i64 xe, .bool xp] 99)).al (.cells #[.int .i64 yq1, .int .u64 (yr1 : Nat), .int .u64 (yd1 : Nat), .int .i64 yq2, .int .u64 (yr2 : Nat), .int .u64 (yd2 : Nat), .int .i64 ya, .int .i64 yb, .int .i64 yc, .int .i64 ye, .bool yp] 99)))
      have GB := Lib.hid (hg.out.tr (((Grow.refl wr).al (.cells #[.int .i64 xq1, .int .u64 (xr1 : Nat), .int .u64 (xd1 : Nat), .int .i64 xq2, .int .u64 (xr2 : Nat), .int .u64 (xd2 : Nat), .int .i64 xa, .int .i64 xb, .int .i64 xc, .int .i64 xe, .bool xp] 99)).al (.cells #[.int .i64 yq1, .int .u64 (yr1 : Nat), .int .u64 (yd1 : Nat), .int .i64 yq2, .int .u64 (yr2 : Nat), .int .u64 (yd2 : Nat), .int .i64 ya, .int .i64 yb, .int .i64 yc, .int .i64 ye, .bool yp] 99)))
      clear GW
      generalize (wr.alloc (.cells #[.int .i64 xq1, .int .u64 (xr1 : Nat), .int .u64 (xd1 : Nat), .int .i64 xq2, .int .u64 (xr2 : Nat), .int .u64 (xd2 : Nat), .int .i64 xa, .int .i64 xb, .int .i64 xc, .int .i64 xe, .bool xp] 99)).alloc (.cells #[.int .i64 yq1, .int .u64 (yr1 : Nat), .int .u64 (yd1 : Nat), .int .i64 yq2, .int .u64 (yr2 : Nat), .int .u64 (yd2 : Nat), .int .i64 ya, .int .i64 yb, .int .i64 yc, .int .i64 ye, .bool yp] 99) = w2 at *
      generalize wr.heap.size = nb at *
      clear hg
      go_wp2_with fail
      refine wp_region_lexT (fun W => BoxH w w.heap.size #[.int .i64 hc, .bool hu, .bool ha] 101 W ∧ BoxH w1 nb #[.int .i64 xq1, .int .u64 (xr1 : Nat), .int .u64 (xd1 : Nat), .int .i64 xq2, .int .u64 (xr2 : Nat), .int .u64 (xd2 : Nat), .int .i64 xa, .int .i64 xb, .int .i64 xc, .int .i64 xe, .bool xp] 99 W ∧ BoxH w1 (nb + 1) #[.int .i64 yq1, .int .u64 (yr1 : Nat), .int .u64 (yd1 : Nat), .int .i64 yq2, .int .u64 (yr2 : Nat), .int .u64 (yd2 : Nat), .int .i64 ya, .int .i64 yb, .int .i64 yc, .int .i64 ye, .bool yp] 99 W) (⟨BH.out.tr (Grow.refl _).dr, BN.out.tr (Grow.refl _).dr, BM.out.tr (Grow.refl _).dr⟩) 7 [0, 1, 2, 4, 5, 6, 3] (by kernel_rfl) (by kernel_rfl) (by intro c a d v w h; cases d <;> exact h) ?_
      iterate 6 (apply lext_take; exact rfl; exact rfl; (intro W hW; have h0 := hW.1.cell 0; have h1 := hW.1.cell 1; have h2 := hW.1.cell 2; have a0 := hW.2.1.cell 0; have a1 := hW.2.1.cell 1; have a2 := hW.2.1.cell 2; have a3 := hW.2.1.cell 3; have a4 := hW.2.1.cell 4; have a5 := hW.2.1.cell 5; have b0 := hW.2.2.cell 0; have b1 := hW.2.2.cell 1; have b2 := hW.2.2.cell 2; have b3 := hW.2.2.cell 3; have b4 := hW.2.2.cell 4; have b5 := hW.2.2.cell 5; (try clear hW); go_simp; with_reducible rfl); try simp only [Act.put, List.setIfInBounds_toArray, List.set_cons_zero, List.set_cons_succ])
      apply lext_turn; exact rfl; exact rfl; exact rfl; intro K hK; go_simp; go_at_call 80; refine HX.out _ _ ?_; intro w3 hg3
      have hg3 := (Grow.refl w2).dr.tr hg3
      have BH := Lib.hid (BH.out.tr hg3)
      have BN := Lib.hid (BN.out.tr hg3)
      have HO := Lib.hid (own_grow HO.out hg3)
      have GB := Lib.hid (GB.out.tr hg3)
      refine hK.out _ _ ⟨BH.out, BN.out, BM.out.tr hg3⟩ ?_
      clear hK hg3 BM
      try simp only [Act.put, List.setIfInBounds_toArray, List.set_cons_zero, List.set_cons_succ]
      refine lext_nil ?_
      simp only [List.drop_succ_cons, List.drop_zero]
      go_wp2_with fail
      go_at_call 80
      refine HY.out _ _ ?_
      intro w4 hg4
      have BH := Lib.hid (BH.out.tr hg4)
      have BN := Lib.hid (BN.out.tr hg4)
      have HO := Lib.hid (own_grow HO.out hg4)
      have GB := Lib.hid (GB.out.tr hg4)
      clear hg4 HX HY
      have n0 := BN.out.cell 0
      have n1 := BN.out.cell 1
      have n2 := BN.out.cell 2
      have n3 := BN.out.cell 3
      have n4 := BN.out.cell 4
      have n5 := BN.out.cell 5
      have n6 := BN.out.cell 6
      have n7 := BN.out.cell 7
      have n8 := BN.out.cell 8
      have n9 := BN.out.cell 9
      have n10 := BN.out.cell 10
      have m0 := BH.out.cell 0
      have m1 := BH.out.cell 1
      have m2 := BH.out.cell 2
      cases b1 with
      | true =>
        simp only [if_true] at CS
        cases b2 with
        | true =>
          clear CX
          go_wp2_with (at_builtin; refine wpList_newAt rfl _ _ rfl el_node HO.out rfl 1 _ rfl _ rfl (by decide) rfl (by simp [Value.oneCell']) (by have := CL.out; omega) GB.out ⟨Nat.le_refl _, GB.out.size⟩ ?_; intro v5 w5 hO5 hg5 hgr5 hb5; have HO5 := Lib.hid hO5; have GB5 := Lib.hid hg5; clear hO5 hg5 hgr5 hb5)
          go_roundw
          case rel => exact ⟨k + 1, by omega, by go_num, own_eq HO5.out (by rw [CS.out]; simp) (by rw [CS.out]; simp [Nodes, Node.cells]), GB5.out⟩
          case measure => simp [intOf]; omega
        | false =>
          go_wp2_with (at_builtin; refine wpList_newAt rfl _ _ rfl el_node HO.out rfl 1 _ rfl _ rfl (by decide) rfl (by simp [Value.oneCell']) (by have := CL.out; omega) GB.out ⟨Nat.le_refl _, GB.out.size⟩ ?_; intro v5 w5 hO5 hg5 hgr5 hb5; have HO5 := Lib.hid hO5; have GB5 := Lib.hid hg5; have BN5 := Lib.hid (BN.out.by_ hgr5 (fun kk hk => (HO.out.lt kk hk).1) (fun e => by have := OL.out nb e.symm; omega)); have BH5 := Lib.hid (BH.out.by_ hgr5 (fun kk hk => Nat.le_trans HSZ.out (HO.out.lt kk hk).1) (fun e => by have := (HO.out.lt _ e.symm).1; have := LW.out; omega)); clear hO5 hg5 hgr5 hb5 n0 n1 n2 n3 n4 n5 n6 n7 n8 n9 n10 m0 m1 m2; have m0 := BH5.out.cell 0; have m1 := BH5.out.cell 1; have m2 := BH5.out.cell 2; have n0 := BN5.out.cell 0; have n1 := BN5.out.cell 1; have n2 := BN5.out.cell 2; have n3 := BN5.out.cell 3; have n4 := BN5.out.cell 4; have n5 := BN5.out.cell 5; have n6 := BN5.out.cell 6; have n7 := BN5.out.cell 7; have n8 := BN5.out.cell 8; have n9 := BN5.out.cell 9; have n10 := BN5.out.cell 10)
          go_at_call 81
          refine CX.out _ _ ?_
          intro w6 hg6
          have HO6 := Lib.hid (own_grow HO5.out hg6)
          have GB6 := Lib.hid (GB5.out.tr hg6)
          clear hg6 CX
          go_wp2_with (at_builtin; refine wpList_newAt rfl _ _ rfl el_node HO6.out rfl 1 _ rfl _ rfl (by decide) rfl (by simp [Value.oneCell']) (by have := CL.out; omega) GB6.out ⟨Nat.le_refl _, GB6.out.size⟩ ?_; intro v5 w5 hO5 hg5 hgr5 hb5; have HO7 := Lib.hid hO5; have GB7 := Lib.hid hg5; clear hO5 hg5 hgr5 hb5)
          go_roundw
          case rel => exact ⟨k + 1, by omega, by go_num, own_eq HO7.out (by rw [CS.out]; simp) (by rw [CS.out]; simp [Nodes, Node.cells]), GB7.out⟩
          case measure => simp [intOf]; omega
      | false =>
        simp only [Bool.false_eq_true, if_false, List.nil_append] at CS
        cases b2 with
        | true =>
          go_wp2_with fail
          clear n0 n1 n2 n3 n4 n5 n6 n7 n8 n9 n10 m0 m1 m2
          refine wp_region_lexT (fun W => BoxH w w.heap.size #[.int .i64 hc, .bool hu, .bool ha] 101 W ∧ BoxH w1 nb #[.int .i64 xq1, .int .u64 (xr1 : Nat), .int .u64 (xd1 : Nat), .int .i64 xq2, .int .u64 (xr2 : Nat), .int .u64 (xd2 : Nat), .int .i64 xa, .int .i64 xb, .int .i64 xc, .int .i64 xe, .bool xp] 99 W) (⟨BH.out.tr (Grow.refl _).dr, BN.out.tr (Grow.refl _).dr⟩) 8 [0, 1, 2, 4, 5, 3, 6, 7] (by kernel_rfl) (by kernel_rfl) (by intro c a d v w h; cases d <;> exact h) ?_
          iterate 5 (apply lext_take; exact rfl; exact rfl; (intro W hW; have n0 := hW.2.cell 0; have n1 := hW.2.cell 1; have n2 := hW.2.cell 2; have n3 := hW.2.cell 3; have n4 := hW.2.cell 4; have n5 := hW.2.cell 5; have n6 := hW.2.cell 6; have n7 := hW.2.cell 7; have n8 := hW.2.cell 8; have n9 := hW.2.cell 9; have n10 := hW.2.cell 10; have m0 := hW.1.cell 0; have m1 := hW.1.cell 1; have m2 := hW.1.cell 2; (try clear hW); go_simp; with_reducible rfl); try simp only [Act.put, List.setIfInBounds_toArray, List.set_cons_zero, List.set_cons_succ])
          apply lext_turn; exact rfl; exact rfl; exact rfl; intro K hK; go_simp; go_at_call 81; refine CX.out _ _ ?_; intro w6 hg6
          have hg6 := (Grow.refl w4).dr.tr hg6
          have HO6 := Lib.hid (own_grow HO.out hg6)
          have GB6 := Lib.hid (GB.out.tr hg6)
          have BH := Lib.hid (BH.out.tr hg6)
          have BN := Lib.hid (BN.out.tr hg6)
          refine hK.out _ _ ⟨BH.out, BN.out⟩ ?_
          clear hK hg6 CX
          try simp only [Act.put, List.setIfInBounds_toArray, List.set_cons_zero, List.set_cons_succ]
          iterate 1 (apply lext_take; exact rfl; exact rfl; (intro W hW; (try clear hW); go_simp; with_reducible rfl); try simp only [Act.put, List.setIfInBounds_toArray, List.set_cons_zero, List.set_cons_succ])
          apply lext_turn; exact rfl; exact rfl; exact rfl; intro K hK; go_simp; refine hK.out _ _ (⟨BH.out.tr ((Grow.refl _).al _), BN.out.tr ((Grow.refl _).al _)⟩) ?_; clear hK; try simp only [Act.put, List.setIfInBounds_toArray, List.set_cons_zero, List.set_cons_succ]
          refine lext_nil ?_
          simp only [List.drop_succ_cons, List.drop_zero]
          go_wp2_with (at_builtin; refine wpList_newAt rfl _ _ rfl el_node HO6.out rfl 1 _ rfl _ rfl (by decide) rfl (by simp [Value.oneCell']) (by have := CL.out; omega) GB6.out ⟨Nat.le_refl _, GB6.out.size⟩ ?_; intro v5 w5 hO5 hg5 hgr5 hb5; have HO7 := Lib.hid hO5; have GB7 := Lib.hid hg5; clear hO5 hg5 hgr5 hb5)
          go_roundw
          case rel => exact ⟨k + 1, by omega, by go_num, own_eq HO7.out (by rw [CS.out]; simp) (by rw [CS.out]; simp [Nodes, Node.cells]), GB7.out⟩
          case measure => simp [intOf]; omega
        | false =>
          clear CX
          go_wp2_with fail
          go_roundw
          case rel => exact ⟨k + 1, by omega, by go_num, own_eq HO.out (by rw [CS.out]; simp) (by rw [CS.out]; simp), GB.out⟩
          case measure => simp [intOf]; omega
    · obtain rfl : k = l.length := by omega
      go_wp2
      exact HR.out _ _ (own_base hown HSZ.out) (GA.out.tr hg.out)
end Go.Proofs.Ytjcgkhcbdbbdkaa
