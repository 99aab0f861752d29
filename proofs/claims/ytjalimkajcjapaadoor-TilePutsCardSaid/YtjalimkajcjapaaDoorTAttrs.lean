/-
  Tiles got of bytes: a feature's attributes of places (tile's raw.attrs).
-/
import Derived.Test.YtjalimkajcjapaaDoorChecked
import Derived.Test.YtjalimkajcjapaaDoorTOnce
import Derived.Test.YtjalimkajcjapaaDoorTlA
namespace Go.Proofs.YtjalimkajcjapaaDoor
open Go.RowKit B

theorem getAt_cons (K : List ByteArray) (V : List Val) (k v : Int) (r : List Int) : getAt K V (k :: v :: r) = match K[k.toNat]?, V[v.toNat]?, getAt K V r with
    | some x, some y, some l => some ((x, y) :: l)
    | _, _, _ => none := by
  rw [getAt]
  rfl
theorem getAt_app (K : List ByteArray) (V : List Val) : ∀ t u : List Int, t.length % 2 = 0 → getAt K V (t ++ u) = match getAt K V t, getAt K V u with | some l, some m => some (l ++ m) | _, _ => none
  | [], u, _ => by
    rw [List.nil_append]
    have e : getAt K V [] = some [] := rfl
    rw [e]
    cases getAt K V u <;> rfl
  | [x], u, h => by simp at h
  | k :: v :: r, u, h => by
    have ih := getAt_app K V r u (by simp only [List.length_cons] at h; omega)
    rw [List.cons_append, List.cons_append, getAt_cons, getAt_cons, ih]
    cases K[k.toNat]? with
    | none => rfl
    | some x =>
      cases V[v.toNat]? with
      | none => rfl
      | some y => cases getAt K V r <;> cases getAt K V u <;> rfl
theorem getAt_odd {K : List ByteArray} {V : List Val} {t : List Int} (h : t.length % 2 = 1) : getAt K V t = none := by
  cases hg : getAt K V t with
  | none => rfl
  | some l => have := (getAt_ok t l hg).1; omega
theorem getAt_two {K : List ByteArray} {V : List Val} {t : List Int} {n : Nat} (hn : n + 1 < t.length) (he : n % 2 = 0) {l : List AtP} (h : getAt K V (t.take n) = some l) :
    (∀ x y, K[t[n].toNat]? = some x → V[t[n + 1].toNat]? = some y → getAt K V (t.take (n + 2)) = some (l ++ [(x, y)])) ∧ (K[t[n].toNat]? = none ∨ V[t[n + 1].toNat]? = none → getAt K V t = none) := by
  have e1 : t.take (n + 2) = t.take n ++ [t[n], t[n + 1]] := by
    rw [show n + 2 = n + 1 + 1 from rfl, List.take_succ_eq_append_getElem hn, List.take_succ_eq_append_getElem (by omega), List.append_assoc]
    rfl
  have e2 : t = t.take n ++ (t[n] :: t[n + 1] :: t.drop (n + 2)) := by
    rw [← List.drop_eq_getElem_cons hn, ← List.drop_eq_getElem_cons (by omega), List.take_append_drop]
  have hl : (t.take n).length % 2 = 0 := by rw [List.length_take]; omega
  constructor
  · intro x y hx hy
    rw [e1, getAt_app K V _ _ hl, h]
    have : getAt K V [t[n], t[n + 1]] = some [(x, y)] := by
      unfold getAt
      rw [hx, hy]
      rfl
    rw [this]
  · intro hor
    have e3 := congrArg (getAt K V) e2
    rw [getAt_app K V _ _ hl, h] at e3
    have : getAt K V (t[n] :: t[n + 1] :: t.drop (n + 2)) = none := by
      unfold getAt
      rcases hor with e | e
      · rw [e]
      · rw [e]
        cases K[t[n].toNat]? <;> rfl
    rw [this] at e3
    exact e3
theorem el_atr : Elem Tryd.prog 39 46 (.agg #[.string ⟨#[]⟩, .int .i64 0, .string ⟨#[]⟩, .int .u64 0]) 4 48 := ⟨by kernel_rfl, by kernel_rfl, rfl, by decide, by decide⟩

set_option maxRecDepth 100000 in
set_option maxHeartbeats 4000000 in
theorem attrs_any (Ks : List ByteArray) (V : List Val) (tags : List Int) (kv vv tv : Value) (S1 S2 S3 : Nat → Prop) (w : World) (hK : Rd w S1 1 kv Ks.length (strs Ks)) (hV : Rd w S2 3 vv V.length (Vals V)) (hT : Rd w S3 1 tv tags.length (U32 tags))
    (hb : ∀ x ∈ tags, 0 ≤ x ∧ x ≤ 4294967295) (hn : tags.length ≤ 1000000) (hp : ∀ v ∈ V, plainV v = v) {R : Ending → World → Prop}
    (h0 : getAt Ks V tags = none → ∀ w', Grow w w' → R (.returned (.tuple #[.slice none 0 0, .bool false])) w')
    (h1 : ∀ B : List Atr, getAt Ks V tags = some (B.map Atr.pl) → (∀ a ∈ B, a.key ∈ Ks ∧ a.val ∈ V) → ∀ av w', w'.ownsRow w.heap.size 46 4 av B.length (Atrs B) → Grow w w' → R (.returned (.tuple #[av, .bool true])) w') :
    Calls Tryd.prog 69 #[.agg #[kv, vv], tv] w R := by
  have NO := Lib.hid h0
  have YS := Lib.hid h1
  have HP := Lib.hid hp
  have HB := Lib.hid hb
  have hK := hK.lt (by decide)
  have hV := hV.lt (by decide)
  have hT := hT.lt (by decide)
  have HK := Lib.hid hK
  have HT := Lib.hid hT
  obtain ⟨_, A1, c1, rfl, k1, k2, k3, k4⟩ := hK
  obtain ⟨_, A2, c2, rfl, v1, v2, v3, v4⟩ := hV
  obtain ⟨_, A3, c3, rfl, t1, t2, t3, t4⟩ := hT
  unfold maxLen at k2 v2 t2
  clear h0 h1 hp hb
  have B0 := Lib.hid (BoxH.laid #[.slice A1 Ks.length c1, .slice A2 V.length c2] 106 (Grow.refl w))
  go_enter Tryd.func69, Tryd.ntmps69
  by_cases hodd : tags.length % 2 = 1
  · have FIN := Lib.hid (NO.out (getAt_odd hodd))
    clear NO YS
    have tt : (Int.tmod (tags.length : Int) 2 != 0) = true := by rw [bne_iff_ne, show Int.tmod (tags.length : Int) 2 = ((tags.length % 2 : Nat) : Int) from rfl]; omega
    go_wp2
    exact FIN.out _ B0.out.grow
  · have tt : (Int.tmod (tags.length : Int) 2 != 0) = false := by rw [bne_eq_false_iff_eq, show Int.tmod (tags.length : Int) 2 = ((tags.length % 2 : Nat) : Int) from rfl]; omega
    go_wp2
    generalize w.alloc (.cells #[.slice A1 Ks.length c1, .slice A2 V.length c2] 106) = wa at *
    obtain ⟨rb, hrb⟩ : ∃ rb, w.heap.size = rb := ⟨_, rfl⟩
    rw [hrb] at B0
    rw [hrb]
    have LB : Hid (w.heap.size ≤ rb) := by show _ ≤ _; omega
    clear hrb
    go_loopw [7, 6] (fun i lv wr => ∃ n : Nat, n ≤ tags.length ∧ n % 2 = 0 ∧ i = .int .i64 n ∧ Hid (∃ B : List Atr, getAt Ks V (tags.take n) = some (B.map Atr.pl) ∧ (∀ a ∈ B, a.key ∈ Ks ∧ a.val ∈ V) ∧ 2 * B.length = n ∧ wr.ownsRow w.heap.size 46 4 lv B.length (Atrs B)) ∧ Hid (BoxH w rb #[.slice A1 Ks.length c1, .slice A2 V.length c2] 106 wr)) (fun i _ _ => tags.length - (intOf i).toNat)
    case atStart => exact ⟨0, Nat.zero_le _, rfl, rfl, ⟨[], rfl, by simp, rfl, World.ownsRow_nil _ _ _ _⟩, B0.out⟩
    case round =>
      clear B0
      obtain ⟨n, hn, he, rfl, hB, hbx⟩ := hrel
      by_cases hlt : n < tags.length
      · have hlt1 : n + 1 < tags.length := by omega
        obtain ⟨b3, o3, rfl, hb3, hc3⟩ := t4 (by omega)
        obtain ⟨B, q1, q2, q3, q4⟩ := hB.out
        obtain ⟨TW, TN⟩ := getAt_two hlt1 he q1
        have e0 := HB.out tags[n] (List.getElem_mem _)
        have e1 := HB.out tags[n + 1] (List.getElem_mem _)
        have c0 : wr.cell? ⟨b3, o3 + n, none⟩ = some (.int .u32 tags[n]) := by
          have := rd_cell hbx.out.grow HT.out rfl (i := n) (by rw [show (U32 tags).length = tags.length from by unfold U32; simp]; exact hlt)
          rw [this]
          unfold U32
          simp
        have c1 : wr.cell? ⟨b3, o3 + (n + 1), none⟩ = some (.int .u32 tags[n + 1]) := by
          have := rd_cell hbx.out.grow HT.out rfl (i := n + 1) (by rw [show (U32 tags).length = tags.length from by unfold U32; simp]; exact hlt1)
          rw [this]
          unfold U32
          simp
        obtain ⟨x, hx⟩ : ∃ x : Nat, tags[n] = (x : Int) := ⟨tags[n].toNat, by omega⟩
        obtain ⟨y, hy⟩ : ∃ y : Nat, tags[n + 1] = (y : Int) := ⟨tags[n + 1].toNat, by omega⟩
        rw [hx] at c0 TW TN
        rw [hy] at c1 TW TN
        have XB : x ≤ 4294967295 := by omega
        have YB : y ≤ 4294967295 := by omega
        rw [Int.toNat_natCast, Int.toNat_natCast] at TW TN
        clear e0 e1 hx hy q1
        go_wp2
        go_quiet (fail)
        have z0 := (hbx.out.tr ((Grow.refl wr).dn nq)).cell 0
        have z1 := (hbx.out.tr ((Grow.refl wr).dn nq)).cell 1
        by_cases hxk : x < Ks.length
        · by_cases hyv : y < V.length
          · obtain ⟨b1, o1, rfl, hb1, hc1⟩ := k4 (by omega)
            obtain ⟨b2, o2, rfl, hb2, hc2⟩ := v4 (by omega)
            have EK : Hid (∀ W, Grow wr W → W.cell? ⟨b1, o1 + x, none⟩ = some (.string Ks[x])) := fun W h => by
              have := rd_cell (hbx.out.grow.tr h) HK.out rfl (i := x) (by rw [show (strs Ks).length = Ks.length from by unfold strs; simp]; exact hxk)
              rw [this]
              unfold strs
              simp
            have EV := Lib.hid fun W (h : Grow wr W) => flat_cells Val.cells_len (hbx.out.grow.tr h) hb2 hc2 hyv
            have TW := Lib.hid (TW Ks[x] V[y] (List.getElem?_eq_getElem hxk) (List.getElem?_eq_getElem hyv))
            have PV := Lib.hid (HP.out V[y] (List.getElem_mem hyv))
            have MK := Lib.hid (List.getElem_mem hxk)
            have MV := Lib.hid (List.getElem_mem hyv)
            clear hc1 hc2 k4 v4 t4 hc3 TN NO c0 c1 hB
            generalize Ks[x] = kx at *
            generalize V[y] = vy at *
            obtain ⟨vk, vt, vb⟩ := vy
            go_upto_region 10 with fail
            have B1 := Lib.hid (hbx.out.tr ((Grow.refl wr).dn nq))
            clear hbx z0 z1
            refine wp_region_lexT (fun W => Grow (wr.drewN nq) W) ((Grow.refl _).dr) 13 [0, 1, 2, 3, 4, 5, 6, 7, 8, 9, 10, 11, 12] (by kernel_rfl) (by kernel_rfl) (by intro c a d v w h; cases d <;> exact h) ?_
            have O1 := own_grow q4 ((Grow.refl wr).dn (nq + 1))
            obtain ⟨W1, hW1⟩ : ∃ W1, (wr.drewN nq).drew = W1 := ⟨_, rfl⟩
            have GW : Hid (∀ W, Grow (wr.drewN nq) W → Grow wr W) := fun W h => ((Grow.refl wr).dn nq).tr h
            iterate 12 (apply lext_take; exact rfl; exact rfl; (intro W hW; have z0 := (B1.out.tr hW).cell 0; have z1 := (B1.out.tr hW).cell 1; have ek := EK.out W (GW.out W hW); have ev0 := EV.out W (GW.out W hW) 0 _ rfl; have ev1 := EV.out W (GW.out W hW) 1 _ rfl; have ev2 := EV.out W (GW.out W hW) 2 _ rfl; simp only [Nat.add_zero] at ev0; (try clear hW); go_simp; with_reducible rfl); try simp only [Act.put, List.setIfInBounds_toArray, List.set_cons_zero, List.set_cons_succ])
            obtain ⟨L1, L2, rfl⟩ := own_slice q4
            have LE : Hid (w.heap.size ≤ (wr.drewN (nq + 1)).heap.size) := (B1.out.grow.dr).size
            have BL : Hid (2 * B.length ≤ 1000000) := by show _ ≤ _; omega
            have B2 : Hid (BoxH w rb #[.slice (some ⟨b1, o1, none⟩) Ks.length c1, .slice (some ⟨b2, o2, none⟩) V.length c2] 106 (wr.drewN (nq + 1))) := B1.out.tr (Grow.refl _).dr
            clear EK EV GW B1 hW1
            apply lext_turn; exact rfl; exact rfl; exact rfl; intro K hK; go_simp; refine hK.out _ _ ((Grow.refl _).dr.al _) ?_; clear hK; try simp only [Act.put, List.setIfInBounds_toArray, List.set_cons_zero, List.set_cons_succ]
            refine lext_nil ?_
            simp only [List.drop_succ_cons, List.drop_zero]
            have hsz : Hid ((wr.drewN (nq + 1)).heap.size = wr.heap.size) := by show _ = _; simp
            generalize wr.drewN (nq + 1) = wd at *
            go_wp2_with (at_builtin; refine wpList_put rfl _ _ rfl el_atr O1 rfl 1 wr.heap.size hsz.out _ rfl (by decide) rfl (by simp [Value.oneCell']) (by have := BL.out; omega) LE.out ?_; intro v2 w2 hown2 hgr2 hb2)
            have G2 := Lib.hid (grow_app B2.out.grow hgr2 (own_ge O1))
            have B3 := Lib.hid (B2.out.by_ hgr2 (own_ge O1) fun e => own_ne_box O1 B2.out.2.2 (by decide) e.symm)
            have hnp : plainV ⟨vk, vt, vb⟩ = ⟨vk, vt, vb⟩ := PV.out
            have ON : Hid (∃ B : List Atr, getAt Ks V (tags.take (n + 2)) = some (B.map Atr.pl) ∧ (∀ a ∈ B, a.key ∈ Ks ∧ a.val ∈ V) ∧ 2 * B.length = n + 2 ∧ w2.ownsRow w.heap.size 46 4 v2 B.length (Atrs B)) := by
              refine ⟨B ++ [⟨kx, ⟨vk, vt, vb⟩⟩], ?_, ?_, ?_, own_eq hown2 (by simp) (by simp [Atrs, Atr.cells])⟩
              · rw [TW.out, List.map_append]
                show _ = some (B.map Atr.pl ++ [(kx, plainV ⟨vk, vt, vb⟩)])
                rw [hnp]
              · intro a ha
                rcases List.mem_append.1 ha with ha | ha
                · exact q2 a ha
                · rw [List.mem_singleton.1 ha]; exact ⟨MK.out, MV.out⟩
              · rw [List.length_append, List.length_singleton]; omega
            clear hown2 hgr2 hb2 O1 TW hnp
            go_roundw
            case rel => exact ⟨n + 2, by omega, by omega, by go_num, ON.out, B3.out⟩
            case measure => simp [intOf]; omega
          · have FIN := Lib.hid (NO.out (TN (.inr (List.getElem?_eq_none (by omega)))))
            clear NO YS TW TN
            go_wp2
            exact FIN.out _ (hbx.out.grow.dn nq)
        · have FIN := Lib.hid (NO.out (TN (.inl (List.getElem?_eq_none (by omega)))))
          clear NO YS TW TN
          go_wp2
          exact FIN.out _ (hbx.out.grow.dn nq)
      · obtain rfl : n = tags.length := by omega
        obtain ⟨B, q1, q2, q3, q4⟩ := hB.out
        rw [List.take_length] at q1
        have FIN := Lib.hid (YS.out B q1 q2 _ _ q4 hbx.out.grow)
        clear NO YS hB q1 q2 q4
        go_wp2
        exact FIN.out
end Go.Proofs.YtjalimkajcjapaaDoor
