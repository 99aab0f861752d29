/-
  Tiles got of bytes: a feature (tile's raw.feature), walked.
-/
import Derived.Test.YtjalimkajcjapaaDoorChecked
import Derived.Test.YtjalimkajcjapaaDoorTFeat
import Derived.Test.YtjalimkajcjapaaDoorTPutA
namespace Go.Proofs.YtjalimkajcjapaaDoor
open Go.RowKit B

theorem Rd.rowS {w : World} {S : Nat → Prop} {size n : Nat} {v : Value} {xs : List Value} (h : Rd w S size v n xs) {p : Nat} (hB : ∀ b, S b → b ≠ p) (cs : Array Value) : Rd (w.setRow p cs) S size v n xs :=
  Rd.keep h fun b hb => setRow_other _ _ _ _ (hB b hb)
theorem fieldF3 (a b c d : Value) (w : World) : (Instr.field 51 (.agg #[a, b, c, d]) 3).run Tryd.prog w = .ok d w := by kernel_rfl
theorem fieldF2 (a b c d : Value) (w : World) : (Instr.field 51 (.agg #[a, b, c, d]) 2).run Tryd.prog w = .ok c w := by kernel_rfl
structure FtB (b : List UInt8) : Prop where
  len : b.length ≤ 100000
  dat : ∀ f ∈ (get b).1, f.data.length ≤ 100000
  geo : (unpack (dataF (get b).1 4)).1.length ≤ 1000
theorem pick_ok {w : World} {S : Nat → Prop} {fs : List Fld} (h : ∀ f ∈ fs, f.ok w S) (n : Int) : (pickF fs n).ok w S := by
  rcases pick_num fs n with ⟨-, -, h3⟩ | ⟨-, -, h3⟩
  · rw [h3]
    exact ⟨by unfold I64; simp [zFld], by unfold I64; simp [zFld], by simp [zFld], Rd.nil⟩
  · exact h _ h3
theorem pick_getD (fs : List Fld) (n : Int) : ((fs.find? fun f => decide (f.num = n)).map fldC).getD (.agg #[.int .i64 0, .int .i64 0, .int .u64 0, .slice none 0 0]) = fldC (pickF fs n) := by
  unfold pickF
  cases fs.find? fun f => decide (f.num = n) <;> rfl
theorem Flds.gr {w w' : World} {S : Nat → Prop} {v : Value} {fs : List Fld} (h : Flds w S v fs) (hg : Grow w w') : Flds w' S v fs :=
  ⟨h.1.gr2 (by decide) hg, fun f hf => ⟨(h.2 f hf).1, (h.2 f hf).2.1, (h.2 f hf).2.2.1, (h.2 f hf).2.2.2.gr2 (by decide) hg⟩⟩
/-- what a map of fields answers -/
theorem pick_look (fs : List Fld) {T M : List (Int × Int)} {n : Int} (hM : tabL M n = none) (hT : (tabL T n).isSome = true) : (fldF (fs.filter (inT T M)) (.int .i64 n)).getD (.agg #[.int .i64 0, .int .i64 0, .int .u64 0, .slice none 0 0]) = fldC (pickF fs n) := by
  rw [pick_fld fs hM hT]
  exact pick_getD fs n
theorem getF_fs {K : List ByteArray} {V : List Val} {b : List UInt8} {fs : List Fld} (hfs : fs.map Fld.fd = (get b).1) (h0 : (get b).2 = 0) (h1 : onceF (get b).1 = true) (h2 : (unpack (pickF fs 2).data).2 = 0) (h3 : (unpack (pickF fs 4).data).2 = 0) :
    (getAt K V (unpack (pickF fs 2).data).1 = none → getF K V b = .error 3) ∧
    ∀ at_, getAt K V (unpack (pickF fs 2).data).1 = some at_ → ((pickF fs 3).int < 1 ∨ 3 < (pickF fs 3).int → getF K V b = .error 3) ∧
      (¬ ((pickF fs 3).int < 1 ∨ 3 < (pickF fs 3).int) → (∀ e, decS (pickF fs 3).int (unpack (pickF fs 4).data).1 = .error e → getF K V b = .error e) ∧
        ∀ ps, decS (pickF fs 3).int (unpack (pickF fs 4).data).1 = .ok ps → getF K V b = .ok ((fs.find? fun f => decide (f.num = 1)).isSome, (pickF fs 1).int, ((pickF fs 3).int : Int), ps, at_)) := by
  have e2 : dataF (get b).1 2 = (pickF fs 2).data := by rw [← hfs]; exact pick_data fs 2
  have e4 : dataF (get b).1 4 = (pickF fs 4).data := by rw [← hfs]; exact pick_data fs 4
  have key : getF K V b = match getAt K V (unpack (pickF fs 2).data).1 with
    | none => .error 3
    | some at_ => match numF (get b).1 3 with
      | [] => .error 3
      | t :: _ => if t.int < 1 ∨ 3 < t.int then .error 3 else
        match decS t.int (unpack (pickF fs 4).data).1 with
        | .error e => .error e
        | .ok ps => match numF (get b).1 1 with
          | [] => .ok (false, 0, t.int, ps, at_)
          | i :: _ => .ok (true, i.int, t.int, ps, at_) := by
    unfold getF
    rw [if_neg (by simp [h0]), if_neg (by simp [h1]), e2, e4, if_neg (by simp [h2]), if_neg (by simp [h3])]
    rfl
  rw [key]
  constructor
  · intro h
    rw [h]
  · intro at_ h
    rw [h]
    dsimp only
    have n3 := pick_num fs 3
    rw [hfs] at n3
    rcases n3 with ⟨q1, -, q3⟩ | ⟨⟨r, q1⟩, -, -⟩
    · rw [q1, q3]
      dsimp only
      exact ⟨fun _ => rfl, fun h => absurd (.inl (by simp [zFld])) h⟩
    · rw [q1]
      dsimp only
      have e : (pickF fs 3).fd.int = (pickF fs 3).int := rfl
      rw [e]
      refine ⟨fun h => if_pos h, fun h => ?_⟩
      rw [if_neg h]
      refine ⟨fun e he => by rw [he], fun ps hp => ?_⟩
      rw [hp]
      dsimp only
      have n1 := pick_num fs 1
      rw [hfs] at n1
      rcases n1 with ⟨q1, q2, q3⟩ | ⟨⟨r, q1⟩, q2, -⟩
      · rw [q1, q2, q3]; rfl
      · rw [q1, q2]; rfl

set_option maxRecDepth 100000 in
set_option maxHeartbeats 4000000 in
theorem feature_any (Ks : List ByteArray) (V : List Val) (b : List UInt8) (kv vv bv : Value) (S1 S2 S3 : Nat → Prop) (w : World) (hK : Rd w S1 1 kv Ks.length (strs Ks)) (hV : Rd w S2 3 vv V.length (Vals V)) (hb : Rd w S3 1 bv b.length (U8 b)) (hB : FtB b)
    (hp : ∀ v ∈ V, plainV v = v) (okK : ∀ k ∈ Ks, k.size ≤ maxLen) (okV : ∀ v ∈ V, I64 v.k ∧ U64 v.b ∧ v.t.size ≤ maxLen) {R : Ending → World → Prop}
    (h0 : ∀ e, getF Ks V b = .error e → ∀ (x : Ft) w', (∃ a n c, x.pv = .slice a n c) → (∃ a n c, x.av = .slice a n c) → Grow w w' → R (.returned (.tuple #[.agg x.cells.toArray, .int .i64 e])) w')
    (h1 : ∀ (x : FtR) w', getF Ks V b = .ok x.pl → x.rd w' (fun b => w.heap.size ≤ b) → x.ok → Grow w w' → R (.returned (.tuple #[.agg x.cells.toArray, .int .i64 0])) w') :
    Calls Tryd.prog 49 #[.agg #[kv, vv], bv] w R := by
  have NO := Lib.hid h0
  have YS := Lib.hid h1
  have OV : Hid (∀ B : List Atr, (∀ a ∈ B, a.key ∈ Ks ∧ a.val ∈ V) → ∀ a ∈ B, a.ok) := fun B h a ha => ⟨okK _ (h a ha).1, okV _ (h a ha).2⟩
  have HBB := Lib.hid hB
  have GE := Lib.hid fun W (hg : Grow w W) (R : Ending → World → Prop) hR => get_any b bv _ W (hb.gr2 (by decide) hg) (by have := hB.len; omega) (R := R) hR
  have AT := Lib.hid fun tags tv S W (hg : Grow w W) (hT : Rd W S 1 tv tags.length (U32 tags)) (hb : ∀ x ∈ tags, 0 ≤ x ∧ x ≤ 4294967295) (hn : tags.length ≤ 1000000) (R : Ending → World → Prop) h0 h1 => attrs_any Ks V tags kv vv tv _ _ S W (hK.gr2 (by decide) hg) (hV.gr2 (by decide) hg) hT hb hn hp (R := R) h0 h1
  obtain ⟨K1, K2, K3, hk⟩ := hK.form
  obtain ⟨V1, V2, V3, hv⟩ := hV.form
  obtain ⟨B1, B2, B3, hbv⟩ := hb.form
  subst hk hv hbv
  clear h0 h1 hB hp okK okV hK hV hb
  have hmm := @run_makeMap Tryd.prog
  have hf3 := fieldF3
  have hf2 := fieldF2
  have BR := Lib.hid (BoxH.laid #[.slice K1 K2 K3, .slice V1 V2 V3] 106 (Grow.refl w))
  have BF := Lib.hid (BoxH.laid #[.bool false, .int .u64 0, .int .i64 0, .slice none 0 0, .slice none 0 0] 41 BR.out.grow)
  have BR := Lib.hid (BR.out.tr ((Grow.refl _).al (.cells #[.bool false, .int .u64 0, .int .i64 0, .slice none 0 0, .slice none 0 0] 41)))
  rw [World.size_alloc] at BF
  have G0 := Lib.hid BF.out.grow
  go_enter Tryd.func49, Tryd.ntmps49
  go_wp2_with fail
  generalize (w.alloc (.cells #[.slice K1 K2 K3, .slice V1 V2 V3] 106)).alloc (.cells #[.bool false, .int .u64 0, .int .i64 0, .slice none 0 0, .slice none 0 0] 41) = wa at *
  obtain ⟨p2, hp2⟩ : ∃ p, w.heap.size = p := ⟨_, rfl⟩
  obtain ⟨p4, hp4⟩ : ∃ p, w.heap.size + 1 = p := ⟨_, rfl⟩
  rw [hp4] at BF
  rw [hp2] at BR
  rw [hp4, hp2]
  have P24 : Hid (w.heap.size ≤ p2 ∧ w.heap.size ≤ p4 ∧ p2 ≠ p4) := by show _ ∧ _; omega
  clear hp2 hp4
  go_at_call 22
  refine GE.out _ G0.out _ ?_
  intro r fs w1 hO hF hfs hg1
  have BR := Lib.hid (BR.out.tr hg1)
  have BF := Lib.hid (BF.out.tr hg1)
  have FL : Hid (Flds w1 (fun _ => True) r fs) := ⟨(Rd.own hO).into fun _ _ => trivial, fun f hf => ⟨(hF f hf).1, (hF f hf).2.1, (hF f hf).2.2.1, (hF f hf).2.2.2.into fun _ _ => trivial⟩⟩
  have HFS := Lib.hid hfs
  obtain ⟨F1, F2, rfl⟩ := own_slice hO
  clear hg1 hO hF hfs G0 GE
  by_cases he : (get b).2 = 0
  · have t1 : ((get b).2 != 0) = false := by simp [he]
    have HON := Lib.hid (onceF_iff fs)
    rw [HFS.out] at HON
    have M0 : Hid (MapF Tryd.prog 3 (w1.alloc (.map #[] 0)) w1.heap.size 0 (tabF [])) := by
      show MapF _ _ _ _ _ _
      rw [tabF_nil]
      exact MapF.made w1 Tryd.prog 3
    have GM0 : Hid (Grow w1 (w1.alloc (.map #[] 0))) := (Grow.refl w1).al _
    go_upto_region 4 with fail
    go_wp2_with (first | (refine wpList_ins _ rfl _ _ _ _ rfl M0.out rfl keyI Tryd.underlying103 (by unfold maxLen; omega) (key := .int .i64 1) (val := .int .i64 0) rfl rfl (intKey (by unfold I64; simp)) (tabF_snoc (T := []) (k := 1) (v := 0) rfl).1 (tabF_snoc (T := []) (k := 1) (v := 0) rfl).2 ?_; intro wm1 hm1 hg1; have M1 := Lib.hid hm1; have GM1 := Lib.hid (grow_app GM0.out hg1 fun j e => by injection e with e; exact Nat.le_of_eq e); clear hm1 hg1) | (refine wpList_ins _ rfl _ _ _ _ rfl M1.out rfl keyI Tryd.underlying103 (by unfold maxLen; omega) (key := .int .i64 2) (val := .int .i64 2) rfl rfl (intKey (by unfold I64; simp)) (tabF_snoc (T := ([] ++ [(1, 0)] : List (Int × Int))) (k := 2) (v := 2) rfl).1 (tabF_snoc (T := ([] ++ [(1, 0)] : List (Int × Int))) (k := 2) (v := 2) rfl).2 ?_; intro wm2 hm2 hg2; have M2 := Lib.hid hm2; have GM2 := Lib.hid (grow_app GM1.out hg2 fun j e => by injection e with e; exact Nat.le_of_eq e); clear hm2 hg2) | (refine wpList_ins _ rfl _ _ _ _ rfl M2.out rfl keyI Tryd.underlying103 (by unfold maxLen; omega) (key := .int .i64 3) (val := .int .i64 0) rfl rfl (intKey (by unfold I64; simp)) (tabF_snoc (T := (([] ++ [(1, 0)] : List (Int × Int)) ++ [(2, 2)] : List (Int × Int))) (k := 3) (v := 0) rfl).1 (tabF_snoc (T := (([] ++ [(1, 0)] : List (Int × Int)) ++ [(2, 2)] : List (Int × Int))) (k := 3) (v := 0) rfl).2 ?_; intro wm3 hm3 hg3; have M3 := Lib.hid hm3; have GM3 := Lib.hid (grow_app GM2.out hg3 fun j e => by injection e with e; exact Nat.le_of_eq e); clear hm3 hg3) | (refine wpList_ins _ rfl _ _ _ _ rfl M3.out rfl keyI Tryd.underlying103 (by unfold maxLen; omega) (key := .int .i64 4) (val := .int .i64 2) rfl rfl (intKey (by unfold I64; simp)) (tabF_snoc (T := ((([] ++ [(1, 0)] : List (Int × Int)) ++ [(2, 2)] : List (Int × Int)) ++ [(3, 0)] : List (Int × Int))) (k := 4) (v := 2) rfl).1 (tabF_snoc (T := ((([] ++ [(1, 0)] : List (Int × Int)) ++ [(2, 2)] : List (Int × Int)) ++ [(3, 0)] : List (Int × Int))) (k := 4) (v := 2) rfl).2 ?_; intro wm4 hm4 hg4; have M4 := Lib.hid hm4; have GM4 := Lib.hid (grow_app GM3.out hg4 fun j e => by injection e with e; exact Nat.le_of_eq e); clear hm4 hg4))
    go_at_call 47
    refine once_any [(1, 0), (2, 2), (3, 0), (4, 2)] [] _ _ _ fs (fun _ => True) wm4 (FL.out.gr GM4.out) (.inr ⟨_, _, rfl, M4.out⟩) (.inl ⟨rfl, rfl⟩) ?_ ?_
    · intro hno w2 hg2
      have BF := Lib.hid (BF.out.tr (GM4.out.tr hg2))
      have o1 : onceF (get b).1 = false := by
        cases h : onceF (get b).1 with
        | false => rfl
        | true => exact absurd (HON.out.1 h) hno
      have FIN := Lib.hid (NO.out 3 (by unfold getF; rw [if_neg (by simp [he]), if_pos o1]))
      clear NO YS AT OV HBB FL HFS he hno o1 HON hg2 M0 M1 M2 M3 M4 GM0 GM1 GM2 GM3 GM4 t1
      -- BF : the box of the feature at the world of the goal; FIN : the error
      have BZ := Lib.hid (BF.out.row (cs' := #[.bool false, .int .u64 0, .int .i64 0, .slice none 0 0, .slice none 0 0]))
      go_wp2_with (first | (refine wpList_load_row rfl 41 _ rfl p4 rfl 41 _ (0, 0) _ BF.out.2.2 Tryd.underlying41 rfl (by kernel_rfl) ?_) | (refine wpList_store_row rfl 41 _ _ rfl p4 #[.bool false, .int .u64 0, .int .i64 0, .slice none 0 0, .slice none 0 0] rfl rfl 41 _ BF.out.2.2 (by kernel_rfl) rfl (by simp [Value.oneCell']) ?_))
      refine bodyPost_ret (results_ct rfl _ _ p4 _ _ (0, 0) _ rfl BZ.out.2.2 rfl rfl Tryd.underlying41 (by kernel_rfl)) rfl ?_
      exact FIN.out zeroFt _ ⟨_, _, _, rfl⟩ ⟨_, _, _, rfl⟩ BZ.out.grow
    · intro hyes m mn w2 hM hg2
      have G2 := Lib.hid (GM4.out.tr hg2)
      have BR := Lib.hid (BR.out.tr G2.out)
      have BF := Lib.hid (BF.out.tr G2.out)
      have MM := Lib.hid hM
      have FD := Lib.hid (FL.out.gr G2.out)
      have o1 : onceF (get b).1 = true := HON.out.2 hyes
      clear M0 M1 M2 M3 M4 GM0 GM1 GM2 GM3 GM4 hg2 hM FL HON hyes G2
      have D2 : dataF (get b).1 2 = (pickF fs 2).data := by rw [← HFS.out]; exact pick_data fs 2
      have D4 : dataF (get b).1 4 = (pickF fs 4).data := by rw [← HFS.out]; exact pick_data fs 4
      have L2 : (pickF fs 2).data.length ≤ 100000 := D2 ▸ dataF_le HBB.out.dat
      have L4 : (pickF fs 4).data.length ≤ 100000 := D4 ▸ dataF_le HBB.out.dat
      have GEO : (unpack (pickF fs 4).data).1.length ≤ 1000 := D4 ▸ HBB.out.geo
      have E2 : (unpack (pickF fs 2).data).2 ≠ 0 → getF Ks V b = .error (unpack (pickF fs 2).data).2 := fun h => by unfold getF; rw [if_neg (by simp [he]), if_neg (by simp [o1]), D2, if_pos h]
      have E4 : (unpack (pickF fs 2).data).2 = 0 → (unpack (pickF fs 4).data).2 ≠ 0 → getF Ks V b = .error (unpack (pickF fs 4).data).2 := fun h2 h => by unfold getF; rw [if_neg (by simp [he]), if_neg (by simp [o1]), D2, D4, if_neg (by simp [h2]), if_pos h]
      have GF := getF_fs (K := Ks) (V := V) HFS.out he o1
      obtain ⟨hs, hhs⟩ : ∃ hs, (fs.find? fun f => decide (f.num = 1)).isSome = hs := ⟨_, rfl⟩
      have ES1 : Hid ((fldF (fs.filter (inT [(1, 0), (2, 2), (3, 0), (4, 2)] [])) (.int .i64 1)).isSome = hs) := by
        show _ = _
        rw [pick_fld fs rfl rfl, ← hhs]
        cases fs.find? fun f => decide (f.num = 1) <;> rfl
      rw [hhs] at GF
      obtain ⟨q1, hq1⟩ : ∃ q, pickF fs 1 = q := ⟨_, rfl⟩
      have PO1 := Lib.hid (hq1 ▸ pick_ok FD.out.2 1 : q1.ok w2 fun _ => True)
      have EL1 : Hid ((fldF (fs.filter (inT [(1, 0), (2, 2), (3, 0), (4, 2)] [])) (.int .i64 1)).getD (.agg #[.int .i64 0, .int .i64 0, .int .u64 0, .slice none 0 0]) = fldC q1) := (pick_look fs rfl rfl).trans (congrArg fldC hq1)
      obtain ⟨q2, hq2⟩ : ∃ q, pickF fs 2 = q := ⟨_, rfl⟩
      have PO2 := Lib.hid (hq2 ▸ pick_ok FD.out.2 2 : q2.ok w2 fun _ => True)
      have EL2 : Hid ((fldF (fs.filter (inT [(1, 0), (2, 2), (3, 0), (4, 2)] [])) (.int .i64 2)).getD (.agg #[.int .i64 0, .int .i64 0, .int .u64 0, .slice none 0 0]) = fldC q2) := (pick_look fs rfl rfl).trans (congrArg fldC hq2)
      obtain ⟨q3, hq3⟩ : ∃ q, pickF fs 3 = q := ⟨_, rfl⟩
      have PO3 := Lib.hid (hq3 ▸ pick_ok FD.out.2 3 : q3.ok w2 fun _ => True)
      have EL3 : Hid ((fldF (fs.filter (inT [(1, 0), (2, 2), (3, 0), (4, 2)] [])) (.int .i64 3)).getD (.agg #[.int .i64 0, .int .i64 0, .int .u64 0, .slice none 0 0]) = fldC q3) := (pick_look fs rfl rfl).trans (congrArg fldC hq3)
      obtain ⟨q4, hq4⟩ : ∃ q, pickF fs 4 = q := ⟨_, rfl⟩
      have PO4 := Lib.hid (hq4 ▸ pick_ok FD.out.2 4 : q4.ok w2 fun _ => True)
      have EL4 : Hid ((fldF (fs.filter (inT [(1, 0), (2, 2), (3, 0), (4, 2)] [])) (.int .i64 4)).getD (.agg #[.int .i64 0, .int .i64 0, .int .u64 0, .slice none 0 0]) = fldC q4) := (pick_look fs rfl rfl).trans (congrArg fldC hq4)
      rw [hq2] at D2 L2 E2 E4 GF
      rw [hq4] at D4 L4 GEO E4 GF
      rw [hq1, hq3] at GF
      clear D2 D4 hq1 hq2 hq3 hq4 HBB HFS o1 hhs FD
      generalize fldF (fs.filter (inT [(1, 0), (2, 2), (3, 0), (4, 2)] [])) = mf at *
      obtain ⟨X1, Y1, Z1, hx1⟩ := Rd.form PO1.out.2.2.2
      obtain ⟨n1, k1, i1, d1, v1⟩ := q1
      dsimp only at hx1
      subst hx1
      unfold fldC Fld.cells at EL1
      dsimp only at EL1
      obtain ⟨X2, Y2, Z2, hx2⟩ := Rd.form PO2.out.2.2.2
      obtain ⟨n2, k2, i2, d2, v2⟩ := q2
      dsimp only at hx2
      subst hx2
      unfold fldC Fld.cells at EL2
      dsimp only at EL2
      obtain ⟨X3, Y3, Z3, hx3⟩ := Rd.form PO3.out.2.2.2
      obtain ⟨n3, k3, i3, d3, v3⟩ := q3
      dsimp only at hx3
      subst hx3
      unfold fldC Fld.cells at EL3
      dsimp only at EL3
      obtain ⟨X4, Y4, Z4, hx4⟩ := Rd.form PO4.out.2.2.2
      obtain ⟨n4, k4, i4, d4, v4⟩ := q4
      dsimp only at hx4
      subst hx4
      unfold fldC Fld.cells at EL4
      dsimp only at EL4
      dsimp only at L2 L4 GEO E2 E4 GF
      have R2 := Lib.hid PO2.out.2.2.2
      have R4 := Lib.hid PO4.out.2.2.2
      dsimp only at R2 R4
      have IB1 : Hid (i1 < 18446744073709551616) := PO1.out.2.2.1
      have IB3 : Hid (i3 < 18446744073709551616) := PO3.out.2.2.1
      have E2 := Lib.hid E2
      have E4 := Lib.hid E4
      have GF := Lib.hid GF
      have UU := Lib.hid (unpack_len d2)
      have VU := Lib.hid (unpack_len d4)
      clear PO1 PO2 PO3 PO4
      go_upto_region 7 with fail
      go_wp2_with (at_lookup; refine wpList_look1 _ rfl _ _ _ rfl MM.out rfl keyI Tryd.underlying100 (zeroFld _) (key := .int .i64 2) rfl (intKey (by unfold I64; simp)) (v := .agg #[.int .i64 n2, .int .i64 k2, .int .u64 i2, .slice X2 Y2 Z2]) EL2.out ?_)
      go_at_call 68
      refine unpack_any d2 _ _ w2 R2.out L2 ?_
      intro tv w3 hO3 hg3
      have BR := Lib.hid (BR.out.tr hg3)
      have BF := Lib.hid (BF.out.tr hg3)
      have MM := Lib.hid (MM.out.gr hg3)
      have R4 := Lib.hid (R4.out.gr2 (by decide) hg3)
      obtain ⟨T1, T2, rfl⟩ := own_slice hO3
      have TG := Lib.hid (Rd.own hO3)
      clear hg3 hO3 R2
      obtain ⟨⟨tags, e2⟩, hu2⟩ : ∃ u, unpack d2 = u := ⟨_, rfl⟩
      rw [hu2] at TG UU E2 E4 GF ⊢
      dsimp only at TG UU E2 E4 GF ⊢
      by_cases h2 : e2 = 0
      · subst h2
        go_wp2_with (at_lookup; refine wpList_look1 _ rfl _ _ _ rfl MM.out rfl keyI Tryd.underlying100 (zeroFld _) (key := .int .i64 4) rfl (intKey (by unfold I64; simp)) (v := .agg #[.int .i64 n4, .int .i64 k4, .int .u64 i4, .slice X4 Y4 Z4]) EL4.out ?_)
        go_at_call 68
        refine unpack_any d4 _ _ w3 R4.out L4 ?_
        intro gv w4 hO4 hg4
        have BR := Lib.hid (BR.out.tr hg4)
        have BF := Lib.hid (BF.out.tr hg4)
        have MM := Lib.hid (MM.out.gr hg4)
        have TG := Lib.hid (TG.out.gr2 (by decide) hg4)
        obtain ⟨U1, U2, rfl⟩ := own_slice hO4
        have GV := Lib.hid (Rd.own hO4)
        clear hg4 hO4 R4
        obtain ⟨⟨geo, e4⟩, hu4⟩ : ∃ u, unpack d4 = u := ⟨_, rfl⟩
        rw [hu4] at GV VU GEO E4 GF ⊢
        dsimp only at GV VU GEO E4 GF ⊢
        by_cases h4 : e4 = 0
        · subst h4
          have GFa := Lib.hid (GF.out trivial rfl)
          clear GF
          have TL : tags.length ≤ 1000000 := by have := UU.out.1; omega
          have P4 : Hid (p4 < w4.heap.size) := BF.out.lt
          go_wp2_with (refine wpList_load_row rfl 106 _ rfl p2 rfl 106 _ (0, 0) _ BR.out.2.2 Tryd.underlying106 rfl (by kernel_rfl) ?_)
          go_at_call 69
          refine AT.out tags (.slice T1 tags.length T2) _ w4 BR.out.grow TG.out UU.out.2 TL _ ?_ ?_
          · intro hn w5 hg5
            have BF := Lib.hid (BF.out.tr hg5)
            have MM := Lib.hid (MM.out.gr hg5)
            have FIN := Lib.hid (NO.out 3 (GFa.out.1 hn))
            clear NO YS AT OV GFa E2 E4 hg5 hn
            go_upto_region 16 with (at_lookup; refine wpList_look1 _ rfl _ _ _ rfl MM.out rfl keyI Tryd.underlying100 (zeroFld _) (key := .int .i64 3) rfl (intKey (by unfold I64; simp)) (v := .agg #[.int .i64 n3, .int .i64 k3, .int .u64 i3, .slice X3 Y3 Z3]) EL3.out ?_)
            -- BF : the box of the feature at the world of the goal; FIN : the error
            have BZ := Lib.hid (BF.out.row (cs' := #[.bool false, .int .u64 0, .int .i64 0, .slice none 0 0, .slice none 0 0]))
            go_wp2_with (first | (refine wpList_load_row rfl 41 _ rfl p4 rfl 41 _ (0, 0) _ BF.out.2.2 Tryd.underlying41 rfl (by kernel_rfl) ?_) | (refine wpList_store_row rfl 41 _ _ rfl p4 #[.bool false, .int .u64 0, .int .i64 0, .slice none 0 0, .slice none 0 0] rfl rfl 41 _ BF.out.2.2 (by kernel_rfl) rfl (by simp [Value.oneCell']) ?_))
            refine bodyPost_ret (results_ct rfl _ _ p4 _ _ (0, 0) _ rfl BZ.out.2.2 rfl rfl Tryd.underlying41 (by kernel_rfl)) rfl ?_
            exact FIN.out zeroFt _ ⟨_, _, _, rfl⟩ ⟨_, _, _, rfl⟩ BZ.out.grow
          · intro B hB hBm av w5 hOv hg5
            have BF := Lib.hid (BF.out.tr hg5)
            have MM := Lib.hid (MM.out.gr hg5)
            have GV := Lib.hid (GV.out.gr2 (by decide) hg5)
            have GFb := Lib.hid (GFa.out.2 _ hB)
            clear GFa
            have OB := Lib.hid (OV.out B hBm)
            obtain ⟨A1, A2, rfl⟩ := own_slice hOv
            have AV : Hid (Rd w5 (fun b => w4.heap.size ≤ b) 4 (.slice A1 B.length A2) B.length (Atrs B)) := (Rd.own hOv).into fun b hb => own_ge hOv b hb.symm
            have P5 : Hid (p4 < w5.heap.size) := BF.out.lt
            clear AT OV E2 E4 hg5 hB hBm hOv TG TL
            by_cases hk : i3 < 1 ∨ 3 < i3
            · have FIN := Lib.hid (NO.out 3 (GFb.out.1 hk))
              clear NO YS GFb
              rcases hk with hk | hk
              all_goals
                go_upto_region 16 with (at_lookup; refine wpList_look1 _ rfl _ _ _ rfl MM.out rfl keyI Tryd.underlying100 (zeroFld _) (key := .int .i64 3) rfl (intKey (by unfold I64; simp)) (v := .agg #[.int .i64 n3, .int .i64 k3, .int .u64 i3, .slice X3 Y3 Z3]) EL3.out ?_)
                -- BF : the box of the feature at the world of the goal; FIN : the error
                have BZ := Lib.hid (BF.out.row (cs' := #[.bool false, .int .u64 0, .int .i64 0, .slice none 0 0, .slice none 0 0]))
                go_wp2_with (first | (refine wpList_load_row rfl 41 _ rfl p4 rfl 41 _ (0, 0) _ BF.out.2.2 Tryd.underlying41 rfl (by kernel_rfl) ?_) | (refine wpList_store_row rfl 41 _ _ rfl p4 #[.bool false, .int .u64 0, .int .i64 0, .slice none 0 0, .slice none 0 0] rfl rfl 41 _ BF.out.2.2 (by kernel_rfl) rfl (by simp [Value.oneCell']) ?_))
                refine bodyPost_ret (results_ct rfl _ _ p4 _ _ (0, 0) _ rfl BZ.out.2.2 rfl rfl Tryd.underlying41 (by kernel_rfl)) rfl ?_
                exact FIN.out zeroFt _ ⟨_, _, _, rfl⟩ ⟨_, _, _, rfl⟩ BZ.out.grow
            · have GFc := Lib.hid (GFb.out.2 hk)
              clear GFb
              have k1' : 1 ≤ i3 := by omega
              have k2' : i3 ≤ 3 := by omega
              clear hk
              go_wp2_with (at_lookup; refine wpList_look1 _ rfl _ _ _ rfl MM.out rfl keyI Tryd.underlying100 (zeroFld _) (key := .int .i64 3) rfl (intKey (by unfold I64; simp)) (v := .agg #[.int .i64 n3, .int .i64 k3, .int .u64 i3, .slice X3 Y3 Z3]) EL3.out ?_)
              go_at_call 70
              refine decode_any (i3 : Int) geo _ _ w5 GV.out VU.out.2 GEO ?_
              cases hd : decS i3 geo with
              | error e =>
                refine decH_err hd ?_
                intro w6 hg6
                have BF := Lib.hid (BF.out.tr hg6)
                have MM := Lib.hid (MM.out.gr hg6)
                have FIN := Lib.hid (NO.out e (GFc.out.1 e hd) ⟨hs, i1, i3, .slice none 0 0, .slice A1 B.length A2⟩)
                clear NO YS GFc hd hg6
                -- at the world w6 behind Decode: BF, MM
                have BF := Lib.hid (BF.out.tr ((Grow.refl w6).al (.cells #[.int .i64 n1, .int .i64 k1, .int .u64 i1, .slice X1 Y1 Z1] 51)))
                go_upto_region 19 with (at_lookup; refine wpList_lookok _ rfl _ _ _ rfl MM.out rfl keyI Tryd.underlying100 (zeroFld _) (key := .int .i64 1) rfl (intKey (by unfold I64; simp)) (v := .agg #[.int .i64 n1, .int .i64 k1, .int .u64 i1, .slice X1 Y1 Z1]) (ok := hs) EL1.out ES1.out ?_)
                have MM := Lib.hid (MM.out.gr ((Grow.refl w6).al (.cells #[.int .i64 n1, .int .i64 k1, .int .u64 i1, .slice X1 Y1 Z1] 51)))
                have G7 : Hid (Grow w6 (w6.alloc (.cells #[.int .i64 n1, .int .i64 k1, .int .u64 i1, .slice X1 Y1 Z1] 51))) := (Grow.refl w6).al _
                generalize w6.alloc (.cells #[.int .i64 n1, .int .i64 k1, .int .u64 i1, .slice X1 Y1 Z1] 51) = w7 at *
                have BZ := Lib.hid (BF.out.row (cs' := #[.bool hs, .int .u64 i1, .int .i64 i3, .slice none 0 0, .slice A1 B.length A2]))
                go_wp2_with (first | (at_lookup; refine wpList_look1 _ rfl _ _ _ rfl MM.out rfl keyI Tryd.underlying100 (zeroFld _) (key := .int .i64 1) rfl (intKey (by unfold I64; simp)) (v := .agg #[.int .i64 n1, .int .i64 k1, .int .u64 i1, .slice X1 Y1 Z1]) EL1.out ?_) | (refine wpList_store_row rfl 41 _ _ rfl p4 #[.bool hs, .int .u64 i1, .int .i64 i3, .slice none 0 0, .slice A1 B.length A2] rfl rfl 41 _ BF.out.2.2 (by kernel_rfl) rfl (by simp [Value.oneCell']) ?_))
                refine bodyPost_ret (results_ct rfl _ _ p4 _ _ (0, 0) _ rfl BZ.out.2.2 rfl rfl Tryd.underlying41 (by kernel_rfl)) rfl ?_
                exact FIN.out _ ⟨_, _, _, rfl⟩ ⟨_, _, _, rfl⟩ BZ.out.grow
              | ok ps =>
                refine decH_ok hd ?_
                intro rows hrows pv w6 hOp hRp hg6
                have BF := Lib.hid (BF.out.tr hg6)
                have MM := Lib.hid (MM.out.gr hg6)
                have AV := Lib.hid (AV.out.gr2 (by decide) hg6)
                have FIN := Lib.hid (YS.out ⟨⟨hs, i1, i3, pv, .slice A1 B.length A2⟩, rows, B⟩)
                have OKP := GFc.out.2 ps hd
                rw [← hrows] at OKP
                have OKP := Lib.hid OKP
                have PTS : Hid (∀ r ∈ rows, r.l.length ≤ 140737488355328) := fun r hr => by
                  obtain ⟨d1, d2, d3, d4, d5⟩ := dec_enc (fun x hx => (VU.out.2 x hx).1) hd
                  have := encS_mem (kind := (i3 : Int)) (ps := ps) d4 r.l (hrows ▸ List.mem_map.2 ⟨r, hr, rfl⟩)
                  rw [d2] at this
                  omega
                obtain ⟨P1, P2, rfl⟩ := own_slice hOp
                have PV1 : Hid (Rd w6 (fun b => w5.heap.size ≤ b) 1 (.slice P1 rows.length P2) rows.length (rows.map PRow.v)) := (Rd.own hOp).into fun b hb => own_ge hOp b hb.symm
                have PV2 := Lib.hid hRp
                clear NO YS GFc hd hg6 hOp hRp hrows
                -- at the world w6 behind Decode: BF, MM
                have BF := Lib.hid (BF.out.tr ((Grow.refl w6).al (.cells #[.int .i64 n1, .int .i64 k1, .int .u64 i1, .slice X1 Y1 Z1] 51)))
                go_upto_region 19 with (at_lookup; refine wpList_lookok _ rfl _ _ _ rfl MM.out rfl keyI Tryd.underlying100 (zeroFld _) (key := .int .i64 1) rfl (intKey (by unfold I64; simp)) (v := .agg #[.int .i64 n1, .int .i64 k1, .int .u64 i1, .slice X1 Y1 Z1]) (ok := hs) EL1.out ES1.out ?_)
                have MM := Lib.hid (MM.out.gr ((Grow.refl w6).al (.cells #[.int .i64 n1, .int .i64 k1, .int .u64 i1, .slice X1 Y1 Z1] 51)))
                have G7 : Hid (Grow w6 (w6.alloc (.cells #[.int .i64 n1, .int .i64 k1, .int .u64 i1, .slice X1 Y1 Z1] 51))) := (Grow.refl w6).al _
                generalize w6.alloc (.cells #[.int .i64 n1, .int .i64 k1, .int .u64 i1, .slice X1 Y1 Z1] 51) = w7 at *
                have BZ := Lib.hid (BF.out.row (cs' := #[.bool hs, .int .u64 i1, .int .i64 i3, .slice P1 rows.length P2, .slice A1 B.length A2]))
                go_wp2_with (first | (at_lookup; refine wpList_look1 _ rfl _ _ _ rfl MM.out rfl keyI Tryd.underlying100 (zeroFld _) (key := .int .i64 1) rfl (intKey (by unfold I64; simp)) (v := .agg #[.int .i64 n1, .int .i64 k1, .int .u64 i1, .slice X1 Y1 Z1]) EL1.out ?_) | (refine wpList_store_row rfl 41 _ _ rfl p4 #[.bool hs, .int .u64 i1, .int .i64 i3, .slice P1 rows.length P2, .slice A1 B.length A2] rfl rfl 41 _ BF.out.2.2 (by kernel_rfl) rfl (by simp [Value.oneCell']) ?_))
                refine bodyPost_ret (results_ct rfl _ _ p4 _ _ (0, 0) _ rfl BZ.out.2.2 rfl rfl Tryd.underlying41 (by kernel_rfl)) rfl ?_
                have l1 := P4.out
                have l2 := P5.out
                have l3 := P24.out.2.1
                have g4 : w.heap.size ≤ w4.heap.size := by omega
                have g5 : w.heap.size ≤ w5.heap.size := by omega
                refine FIN.out _ OKP.out ⟨?_, fun r hr => ?_, ?_⟩ ⟨IB1.out, by unfold I64; dsimp only; omega, PTS.out, OB.out⟩ BZ.out.grow
                · exact ((PV1.out.gr2 (by decide) G7.out).rowS (fun b hb => by omega) _).into fun b hb => by omega
                · exact ((PV2.out r hr).gr2 (by decide) G7.out |>.rowS (fun b hb => by omega) _).into fun b hb => by omega
                · exact ((AV.out.gr2 (by decide) G7.out).rowS (fun b hb => by omega) _).into fun b hb => by omega
        · have FIN := Lib.hid (NO.out e4 (E4.out trivial h4))
          have t4 : (e4 != 0) = true := by simp [h4]
          clear NO YS AT OV GF E2 E4 h4
          -- BF : the box of the feature at the world of the goal; FIN : the error
          have BZ := Lib.hid (BF.out.row (cs' := #[.bool false, .int .u64 0, .int .i64 0, .slice none 0 0, .slice none 0 0]))
          go_wp2_with (first | (refine wpList_load_row rfl 41 _ rfl p4 rfl 41 _ (0, 0) _ BF.out.2.2 Tryd.underlying41 rfl (by kernel_rfl) ?_) | (refine wpList_store_row rfl 41 _ _ rfl p4 #[.bool false, .int .u64 0, .int .i64 0, .slice none 0 0, .slice none 0 0] rfl rfl 41 _ BF.out.2.2 (by kernel_rfl) rfl (by simp [Value.oneCell']) ?_))
          refine bodyPost_ret (results_ct rfl _ _ p4 _ _ (0, 0) _ rfl BZ.out.2.2 rfl rfl Tryd.underlying41 (by kernel_rfl)) rfl ?_
          exact FIN.out zeroFt _ ⟨_, _, _, rfl⟩ ⟨_, _, _, rfl⟩ BZ.out.grow
      · have FIN := Lib.hid (NO.out e2 (E2.out h2))
        have t2 : (e2 != 0) = true := by simp [h2]
        clear NO YS AT OV GF E2 E4 h2
        -- BF : the box of the feature at the world of the goal; FIN : the error
        have BZ := Lib.hid (BF.out.row (cs' := #[.bool false, .int .u64 0, .int .i64 0, .slice none 0 0, .slice none 0 0]))
        go_wp2_with (first | (refine wpList_load_row rfl 41 _ rfl p4 rfl 41 _ (0, 0) _ BF.out.2.2 Tryd.underlying41 rfl (by kernel_rfl) ?_) | (refine wpList_store_row rfl 41 _ _ rfl p4 #[.bool false, .int .u64 0, .int .i64 0, .slice none 0 0, .slice none 0 0] rfl rfl 41 _ BF.out.2.2 (by kernel_rfl) rfl (by simp [Value.oneCell']) ?_))
        refine bodyPost_ret (results_ct rfl _ _ p4 _ _ (0, 0) _ rfl BZ.out.2.2 rfl rfl Tryd.underlying41 (by kernel_rfl)) rfl ?_
        exact FIN.out zeroFt _ ⟨_, _, _, rfl⟩ ⟨_, _, _, rfl⟩ BZ.out.grow
  · have t1 : ((get b).2 != 0) = true := by simp [he]
    have FIN := Lib.hid (NO.out (get b).2 (by unfold getF; rw [if_pos he]))
    clear NO YS AT OV HBB FL HFS he
    generalize (get b).2 = e at *
    -- BF : the box of the feature at the world of the goal; FIN : the error
    have BZ := Lib.hid (BF.out.row (cs' := #[.bool false, .int .u64 0, .int .i64 0, .slice none 0 0, .slice none 0 0]))
    go_wp2_with (first | (refine wpList_load_row rfl 41 _ rfl p4 rfl 41 _ (0, 0) _ BF.out.2.2 Tryd.underlying41 rfl (by kernel_rfl) ?_) | (refine wpList_store_row rfl 41 _ _ rfl p4 #[.bool false, .int .u64 0, .int .i64 0, .slice none 0 0, .slice none 0 0] rfl rfl 41 _ BF.out.2.2 (by kernel_rfl) rfl (by simp [Value.oneCell']) ?_))
    refine bodyPost_ret (results_ct rfl _ _ p4 _ _ (0, 0) _ rfl BZ.out.2.2 rfl rfl Tryd.underlying41 (by kernel_rfl)) rfl ?_
    exact FIN.out zeroFt _ ⟨_, _, _, rfl⟩ ⟨_, _, _, rfl⟩ BZ.out.grow
end Go.Proofs.YtjalimkajcjapaaDoor
