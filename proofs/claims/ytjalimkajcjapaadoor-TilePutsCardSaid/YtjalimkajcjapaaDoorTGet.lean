/-
  Tiles got of bytes: tile.Get.
-/
import Derived.Test.YtjalimkajcjapaaDoorChecked
import Derived.Test.YtjalimkajcjapaaDoorTLayA
namespace Go.Proofs.YtjalimkajcjapaaDoor
open Go.RowKit B

theorem mapE_takeF {β : Type} (g : FD → Except Int β) {fs : List Fld} {k : Nat} (hk : k < fs.length) {n : Int} {r : List β} (h : mapE g (numF ((fs.take k).map Fld.fd) n) = .ok r) :
    (¬ fs[k].num = n → mapE g (numF ((fs.take (k + 1)).map Fld.fd) n) = .ok r) ∧
    (fs[k].num = n → (∀ e, g fs[k].fd = .error e → mapE g (numF (fs.map Fld.fd) n) = .error e) ∧ ∀ b, g fs[k].fd = .ok b → mapE g (numF ((fs.take (k + 1)).map Fld.fd) n) = .ok (r ++ [b])) := by
  rw [numF_take hk]
  constructor
  · intro hn
    rw [if_neg hn, List.append_nil]
    exact h
  · intro hn
    rw [if_pos hn]
    have e1 : mapE g (numF ((fs.take k).map Fld.fd) n ++ [fs[k].fd]) = match g fs[k].fd with | .error e => .error e | .ok b => .ok (r ++ [b]) := by
      rw [mapE_snoc, h]
      rfl
    constructor
    · intro e he
      rw [he] at e1
      obtain ⟨m, hm⟩ := numF_pre fs (k + 1) n
      rw [numF_take hk, if_pos hn] at hm
      rw [hm]
      exact mapE_pre g _ _ e1
    · intro b hb
      rw [hb] at e1
      exact e1
theorem getT_fs {b : List UInt8} {fs : List Fld} (hfs : fs.map Fld.fd = (get b).1) (h0 : (get b).2 = 0) :
    (∀ e, mapE lyE (numF (fs.map Fld.fd) 3) = .error e → getT b = .error e) ∧ ∀ l, mapE lyE (numF (fs.map Fld.fd) 3) = .ok l → (rightT l = true → getT b = .ok l) ∧ (rightT l = false → getT b = .error 3) := by
  rw [hfs]
  unfold getT
  rw [if_neg (by simp [h0])]
  refine ⟨fun e he => by rw [he], fun l hl => ?_⟩
  rw [hl]
  exact ⟨fun h => by simp [h], fun h => by simp [h]⟩
structure TgB (b : List UInt8) : Prop where
  len : b.length ≤ 1000000000000
  cnt : (get b).1.length ≤ 1000000
  dat : ∀ f ∈ (get b).1, f.num = 3 → LyB f.data
theorem getLy_few {b : List UInt8} (hB : LyB b) {x : LyP} (h : getLy b = .ok x) : ∀ f ∈ x.2.2, f.2.2.2.2.length ≤ 1000000 := by
  unfold getLy at h
  split at h
  · cases h
  · split at h
    · cases h
    · cases hv : mapE valE ((numF (get b).1 4).map FD.data) with
      | error e => rw [hv] at h; cases h
      | ok V =>
        rw [hv] at h
        dsimp only at h
        cases hF : mapE (getF (keysF (get b).1) V) ((numF (get b).1 2).map FD.data) with
        | error e => rw [hF] at h; cases h
        | ok F =>
          rw [hF] at h
          simp only [Except.ok.injEq] at h
          subst h
          intro f hf
          obtain ⟨d, hd, e⟩ := (mapE_len _ _ hF).2 f hf
          obtain ⟨g, hg, rfl⟩ := List.mem_map.1 hd
          have FB := (hB.dat g (numF_mem g hg)).2.2 (numF_num g hg)
          unfold getF at e
          split at e
          · cases e
          · split at e
            · cases e
            · split at e
              · cases e
              · split at e
                · cases e
                · cases h1 : getAt (keysF (get b).1) V (unpack (dataF (get g.data).1 2)).1 with
                  | none => rw [h1] at e; cases e
                  | some at_ =>
                    have k1 := (getAt_ok _ _ h1).1
                    have k2 := (unpack_len (dataF (get g.data).1 2)).1
                    have k3 := dataF_le (n := 2) FB.dat
                    have key : f.2.2.2.2 = at_ := by
                      rw [h1] at e
                      dsimp only at e
                      split at e
                      · cases e
                      · split at e
                        · cases e
                        · split at e
                          · cases e
                          · split at e <;> (injection e with e; rw [← e])
                    rw [key]
                    omega
/-- layers under way -/
structure GS (w : World) (ov : Value) (L : List LyR) (W : World) : Prop where
  gr : Grow w W
  own : W.ownsRow w.heap.size 36 3 ov L.length (Lys L)
  rd : ∀ x ∈ L, x.rd W (fun b => w.heap.size ≤ b ∧ Ins ov b)
  ok : ∀ x ∈ L, x.ok
  few : FewB L
theorem GS.nil {w W : World} (h : Grow w W) : GS w (.slice none 0 0) [] W := ⟨h, World.ownsRow_nil _ _ _ _, by simp, by simp, fun x hx => by simp at hx⟩
theorem GS.to {w W W' : World} {ov : Value} {L : List LyR} (h : GS w ov L W) (hg : Grow W W') : GS w ov L W' :=
  ⟨h.gr.tr hg, own_grow h.own hg, fun x hx => (h.rd x hx).gr hg, h.ok, h.few⟩
theorem GS.app {w W W' : World} {ov ov' : Value} {L : List LyR} {x : LyR} {m : Nat} (h : GS w ov L W) (hg : W.grownBy W' ov.ownBlock) (ho : W'.ownsRow w.heap.size 36 3 ov' (L ++ [x]).length (Lys (L ++ [x]))) (hm : W.heap.size ≤ m) (hb : ov'.ownBlock = ov.ownBlock ∨ ov'.ownBlock = some m)
    (hx : x.rd W (fun b => w.heap.size ≤ b ∧ Ins ov b)) (hk : x.ok) (hf : ∀ f ∈ x.F, f.B.length ≤ 1000000) : GS w ov' (L ++ [x]) W' := by
  have key : ∀ y : LyR, y.rd W (fun b => w.heap.size ≤ b ∧ Ins ov b) → y.rd W' (fun b => w.heap.size ≤ b ∧ Ins ov' b) := fun y hy => ⟨hy.1.insP (by decide) hg hm hb, fun f hf => (hy.2 f hf).insP hg hm hb⟩
  refine ⟨grow_app h.gr hg (own_ge h.own), ho, fun y hy => ?_, fun y hy => ?_, fun y hy => ?_⟩
  · rcases List.mem_append.1 hy with hy | hy
    · exact key y (h.rd y hy)
    · rw [List.mem_singleton.1 hy]; exact key x hx
  · rcases List.mem_append.1 hy with hy | hy
    · exact h.ok y hy
    · rw [List.mem_singleton.1 hy]; exact hk
  · rcases List.mem_append.1 hy with hy | hy
    · exact h.few y hy
    · rw [List.mem_singleton.1 hy]; exact hf
theorem GS.fresh {w W W' : World} {ov : Value} {L : List LyR} {x : LyR} {S : Nat} (h : GS w ov L W) (hx : x.rd W' (fun b => S ≤ b)) (hS : W.heap.size ≤ S) : x.rd W' (fun b => w.heap.size ≤ b ∧ Ins ov b) :=
  hx.into fun b hb => ⟨by have := h.gr.size; omega, fun e => by have := (h.own.lt b e.symm).2; omega⟩
theorem LysRd.into {S T : Nat → Prop} {w : World} {v : Value} {L : List LyR} (h : LysRd w S v L) (hp : ∀ b, S b → T b) : LysRd w T v L := ⟨h.1.into hp, fun x hx => (h.2 x hx).into hp⟩
theorem GS.lys {w W : World} {ov : Value} {L : List LyR} (h : GS w ov L W) : LysRd W (fun b => w.heap.size ≤ b) ov L :=
  ⟨Rd.own_from h.own, fun x hx => (h.rd x hx).into fun _ hb => hb.1⟩

theorem mapE_err {α β : Type} {g : α → Except Int β} (hg : ∀ a e, g a = .error e → e ≠ 0) {e : Int} : ∀ l : List α, mapE g l = .error e → e ≠ 0
  | [], h => by unfold mapE at h; cases h
  | x :: l, h => by
    unfold mapE at h
    cases hx : g x with
    | error e' =>
      rw [hx] at h
      injection h with h
      exact h ▸ hg x e' hx
    | ok b =>
      rw [hx] at h
      dsimp only at h
      cases hl : mapE g l with
      | error e' =>
        rw [hl] at h
        injection h with h
        exact h ▸ mapE_err hg l hl
      | ok r => rw [hl] at h; cases h
theorem valE_err {b : List UInt8} {e : Int} (h : valE b = .error e) : e ≠ 0 := by
  unfold valE at h
  split at h
  · rename_i h0
    injection h with h
    exact h ▸ h0
  · cases h
theorem getLy_err {b : List UInt8} {e : Int} (h : getLy b = .error e) : e ≠ 0 := by
  unfold getLy at h
  split at h
  · rename_i h0
    injection h with h
    exact h ▸ h0
  · split at h
    · injection h with h; omega
    · split at h
      · rename_i e' he
        injection h with h
        exact h ▸ mapE_err (fun d e h => valE_err h) _ he
      · split at h
        · rename_i e' he
          injection h with h
          exact h ▸ mapE_err (fun d e h => getF_err h) _ he
        · cases h
theorem GS.ge {w W : World} {ov : Value} {L : List LyR} (h : GS w ov L W) : ∀ j, ov.ownBlock = some j → w.heap.size ≤ j := own_ge h.own
set_option maxRecDepth 100000 in
set_option maxHeartbeats 6000000 in
theorem tget_any (b : List UInt8) (bv : Value) (S : Nat → Prop) (w : World) (hb : Rd w S 1 bv b.length (U8 b)) (hB : TgB b) (hT : Tabs w) {R : Ending → World → Prop}
    (h0 : ∀ e, getT b = .error e → ∀ w', Grow w w' → R (.returned (.tuple #[.slice none 0 0, .int .i64 e])) w')
    (h1 : ∀ (L : List LyR) (lv : Value) w', getT b = .ok (L.map LyR.pl) → LysRd w' (fun b => w.heap.size ≤ b) lv L → (∀ x ∈ L, x.ok) → FewB L → Grow w w' → R (.returned (.tuple #[lv, .int .i64 0])) w') :
    Calls Tryd.prog 10 #[bv] w R := by
  have NO := Lib.hid h0
  have YS := Lib.hid h1
  have HBB := Lib.hid hB
  have HT := Lib.hid hT
  have GE := Lib.hid fun (R : Ending → World → Prop) hR => get_any b bv _ w hb hB.len (R := R) hR
  obtain ⟨B1, B2, B3, hbv⟩ := hb.form
  subst hbv
  clear h0 h1 hB hb hT
  go_enter Tryd.func10, Tryd.ntmps10
  go_wp2_with fail
  go_at_call 22
  refine GE.out _ ?_
  intro r fs w1 hO hF hfs hg1
  have FL : Hid (Flds w1 (fun _ => True) r fs) := ⟨(Rd.own hO).into fun _ _ => trivial, fun f hf => ⟨(hF f hf).1, (hF f hf).2.1, (hF f hf).2.2.1, (hF f hf).2.2.2.into fun _ _ => trivial⟩⟩
  have HFS := Lib.hid hfs
  have G1 := Lib.hid hg1
  obtain ⟨F1, F2, rfl⟩ := own_slice hO
  clear hg1 hO hF hfs GE
  by_cases he : (get b).2 = 0
  · have t1 : ((get b).2 != 0) = false := by simp [he]
    have GF := Lib.hid (getT_fs HFS.out he)
    have CN : fs.length ≤ 1000000 := by have := HBB.out.cnt; rw [← HFS.out, List.length_map] at this; exact this
    clear he
    go_wp2_with fail
    go_loopw [21, 6] (fun i ov wr => ∃ k : Nat, k ≤ fs.length ∧ i = .int .i64 k ∧ Hid (∃ L, GS w1 ov L wr ∧ L.length ≤ k ∧ mapE lyE (numF ((fs.take k).map Fld.fd) 3) = .ok (L.map LyR.pl)) ∧ Hid (Grow w1 wr)) (fun i _ _ => fs.length - (intOf i).toNat)
    case atStart => exact ⟨0, Nat.zero_le _, rfl, ⟨[], GS.nil (Grow.refl w1), Nat.zero_le _, rfl⟩, Grow.refl _⟩
    case round =>
      obtain ⟨k, hk, rfl, hls, hgw⟩ := hrel
      obtain ⟨L, hl, hln, hv⟩ := hls.out
      clear hls
      by_cases hlt : k < fs.length
      · have FLr := FL.out.gr hgw.out
        obtain ⟨b1, o1, rfl, e1⟩ := rd_flat Fld.cells_len (by decide) FLr.1 hlt
        have NX := Lib.hid (FLr.2 fs[k] (List.getElem_mem hlt))
        have NB : Hid (fs[k].num = 3 → LyB fs[k].data) := fun h => HBB.out.dat fs[k].fd (by rw [← HFS.out]; exact List.mem_map.2 ⟨_, List.getElem_mem hlt, rfl⟩) h
        have MT := Lib.hid (mapE_takeF lyE hlt hv)
        have HL := Lib.hid hl
        have LN := Lib.hid hln
        clear hl hv hln FLr
        generalize fs[k] = x at *
        obtain ⟨xn, xk, xi, xd, xv⟩ := x
        obtain ⟨X1, X2, X3, hx1⟩ := Rd.form NX.out.2.2.2
        dsimp only at hx1
        subst hx1
        have d0 := e1 0 _ rfl
        have d1 := e1 1 _ rfl
        have d2 := e1 2 _ rfl
        have d3 := e1 3 _ rfl
        simp only [Nat.add_zero] at d0
        clear e1
        have RX : Hid (Rd wr (fun _ => True) 1 (.slice X1 X2 X3) xd.length (U8 xd)) := NX.out.2.2.2
        have HN : Hid (I64 xn ∧ I64 xk) := ⟨NX.out.1, NX.out.2.1⟩
        clear NX
        dsimp only at NB
        go_upto_region 8 with fail
        have BA := Lib.hid (BoxH.laid #[.int .i64 xn, .int .i64 xk, .int .u64 xi, .slice X1 X2 X3] 51 (Grow.refl wr))
        have GA : Hid (Grow wr (wr.alloc (.cells #[.int .i64 xn, .int .i64 xk, .int .u64 xi, .slice X1 X2 X3] 51))) := (Grow.refl wr).al _
        clear d0 d1 d2 d3
        generalize wr.alloc (.cells #[.int .i64 xn, .int .i64 xk, .int .u64 xi, .slice X1 X2 X3] 51) = wa at *
        generalize wr.heap.size = p17 at *
        have HL0 := HL
        have RX0 := RX
        clear HL RX
        have HL := Lib.hid (HL0.out.to GA.out)
        have RX := Lib.hid (RX0.out.gr2 (by decide) GA.out)
        have z0 := BA.out.cell 0
        have z1 := BA.out.cell 1
        have z3 := BA.out.cell 3
        clear HL0 RX0
        by_cases h3 : xn = 3
        · subst h3
          have MU := Lib.hid (MT.out.2 rfl)
          have NC := Lib.hid (NB.out rfl)
          clear MT NB
          by_cases hk2 : xk = 2
          · subst hk2
            have LA : Hid (∀ R, (∀ e, getLy xd = .error e → ∀ nm ext A n c w', Grow wa w' → R (.returned (.tuple #[.agg #[.string nm, .int .i64 ext, .slice A n c], .int .i64 e])) w') →
                (∀ nm ext A n c F w', getLy xd = .ok (LyR.pl ⟨nm, ext, .slice A n c, F⟩) → LyR.rd ⟨nm, ext, .slice A n c, F⟩ w' (fun b => (wa).heap.size ≤ b) → LyR.ok ⟨nm, ext, .slice A n c, F⟩ → Grow wa w' → R (.returned (.tuple #[.agg #[.string nm, .int .i64 ext, .slice A n c], .int .i64 0])) w') →
                Calls Tryd.prog 23 #[.slice X1 X2 X3] wa R) := fun R h0 h1 =>
              layer_any xd _ _ wa RX.out NC.out (HT.out.gr (G1.out.tr HL.out.gr)) (fun e he nm ext A n c w' hg => h0 e he nm ext A n c w' hg)
                (fun x w' he hr hk hg => by
                  obtain ⟨A, n, c, e1⟩ := hr.fm
                  obtain ⟨nm, ext, fv, F⟩ := x
                  dsimp only at e1
                  subst e1
                  exact h1 nm ext A n c F w' he hr hk hg)
            go_wp2_with fail
            go_at_call 23
            refine LA.out _ ?_ ?_
            · intro e hge nm ext A n c w4 hg4
              have t2 : (e != 0) = true := by simp [getLy_err hge]
              have FIN := Lib.hid (NO.out e (GF.out.1 e (MU.out.1 e (by show lyE ⟨3, 2, xi, xd⟩ = _; unfold lyE; rw [if_neg (by simp)]; exact hge))))
              have G4 := Lib.hid ((G1.out.tr HL.out.gr).tr (hg4.al (.cells #[.string nm, .int .i64 ext, .slice A n c] 36)))
              clear LA hg4 NO YS MU GF HL HBB HFS RX hge FL
              go_wp2
              exact FIN.out _ G4.out
            · intro nm ext A n c F w4 hge hr hk' hg4
              have HX := Lib.hid ((GS.fresh HL.out hr (Nat.le_refl _)).gr ((Grow.refl w4).al (.cells #[.string nm, .int .i64 ext, .slice A n c] 36)))
              have HM2 := Lib.hid ((HL.out.to hg4).to ((Grow.refl w4).al (.cells #[.string nm, .int .i64 ext, .slice A n c] 36)))
              have BV := Lib.hid (BoxH.laid #[.string nm, .int .i64 ext, .slice A n c] 36 (Grow.refl w4))
              have HK := Lib.hid hk'
              have FW : Hid (∀ f ∈ F, f.B.length ≤ 1000000) := fun f hf => by
                have h := getLy_few NC.out hge f.pl (List.mem_map.2 ⟨f, hf, rfl⟩)
                have e : (FtR.pl f).2.2.2.2.length = f.B.length := List.length_map _
                omega
              have MU2 := Lib.hid (MU.out.2 _ (by show lyE ⟨3, 2, xi, xd⟩ = _; unfold lyE; rw [if_neg (by simp)]; exact hge))
              clear LA NO YS MU hge hr hk' NC hg4 HBB
              go_upto_region 14 with fail
              generalize w4.alloc (.cells #[.string nm, .int .i64 ext, .slice A n c] 36) = w5 at *
              generalize w4.heap.size = p22 at *
              go_wp2_with (first | (refine wpList_load_row rfl 36 _ rfl p22 rfl 36 _ (0, 0) _ BV.out.2.2 Tryd.underlying36 rfl (by kernel_rfl) ?_) | (at_builtin; refine wpList_put rfl _ _ rfl el_ly HM2.out.own rfl 1 _ rfl _ rfl (by decide) rfl (by simp [Value.oneCell']) (by have := LN.out; omega) HM2.out.gr.size ?_; intro v2 w2 hown2 hgr2 hb2; have HL2 := Lib.hid (HM2.out.app (x := ⟨nm, ext, .slice A n c, F⟩) hgr2 (own_eq hown2 (by simp) (by simp [Lys, LyR.cells])) (Nat.le_succ _) hb2 HX.out HK.out FW.out); have G5 := Lib.hid (HL2.out.gr); clear hown2 hgr2 hb2 HM2))
              go_roundw
              case rel => exact ⟨k + 1, by omega, by go_num, ⟨_, HL2.out, by rw [List.length_append, List.length_singleton]; have := LN.out; omega, by rw [MU2.out, List.map_append]; rfl⟩, G5.out⟩
              case measure => simp [intOf]; omega
          · have t2 : (xk != 2) = true := by simp [hk2]
            have FIN := Lib.hid (NO.out 3 (GF.out.1 3 (MU.out.1 3 (by show lyE ⟨3, xk, xi, xd⟩ = _; unfold lyE; exact if_pos hk2))))
            have G4 := Lib.hid (G1.out.tr HL.out.gr)
            clear NO YS MU GF HL HBB HFS RX NC FL
            go_wp2
            exact FIN.out _ G4.out
        · have MU := Lib.hid (MT.out.1 h3)
          clear MT
          have t1 : (xn != 3) = true := by simp [h3]
          have G5 := Lib.hid (hgw.out.tr GA.out)
          go_wp2
          go_roundw
          case rel => exact ⟨k + 1, by omega, by go_num, ⟨_, HL.out, by have := LN.out; omega, MU.out⟩, G5.out⟩
          case measure => simp [intOf]; omega
      · obtain rfl : k = fs.length := by omega
        rw [List.take_length] at hv
        have GF := Lib.hid (GF.out.2 _ hv)
        have HL := Lib.hid hl
        have RI := Lib.hid fun (R : Ending → World → Prop) hR => tright_any _ L _ wr HL.out.lys HL.out.ok (HT.out.gr (G1.out.tr HL.out.gr)) HL.out.few (by omega) (R := R) hR
        obtain ⟨A, c, rfl⟩ := own_slice hl.own
        clear hl hv hk hlt
        go_wp2_with fail
        go_at_call 7
        refine RI.out _ ?_
        intro c1 w4 hc hg4
        have G4 := Lib.hid (HL.out.to hg4)
        cases c1 with
        | true =>
          have FIN := Lib.hid fun lv w' => YS.out L lv w' (GF.out.1 (hc.1 rfl))
          clear NO YS GF HL RI hc hg4 HBB
          go_wp2
          exact FIN.out _ _ (G4.out.lys.into fun b hb => Nat.le_trans G1.out.size hb) G4.out.ok G4.out.few (G1.out.tr G4.out.gr)
        | false =>
          have FIN := Lib.hid (NO.out 3 (GF.out.2 (by cases h : rightT (L.map LyR.pl) with | false => rfl | true => exact absurd (hc.2 h) (by simp))))
          clear NO YS GF HL RI hc hg4 HBB
          go_wp2
          exact FIN.out _ (G1.out.tr G4.out.gr)
  · have t1 : ((get b).2 != 0) = true := by simp [he]
    have FIN := Lib.hid (NO.out (get b).2 (by unfold getT; exact if_pos he))
    have G9 := Lib.hid G1.out
    clear NO YS HBB FL HFS he
    generalize (get b).2 = e at *
    go_wp2
    exact FIN.out _ G9.out
end Go.Proofs.YtjalimkajcjapaaDoor
