import Derived.Test.YtjalimkajcjapaaDoorChecked
import Derived.Test.YtjalimkajcjapaaDoorCore
import Derived.Test.YtjalimkajcjapaaDoorWireA
namespace Go.Proofs.YtjalimkajcjapaaDoor
open Go.RowKit

set_option maxRecDepth 100000 in
set_option maxHeartbeats 400000 in
theorem rput_anyD (D : Nat) (fs : List Fld) (v : Value) (S : Nat → Prop) (w : World) (hf : Flds w S v fs) (hn : fs.length * (D + 40) ≤ 1000000000000) (hd : ∀ f ∈ fs, f.data.length ≤ D)
    {R : Ending → World → Prop} (hR : ∀ r w', w'.ownsRow w.heap.size 5 1 r (fs.flatMap fput).length (U8 (fs.flatMap fput)) → Grow w w' → R (.returned r) w') :
    Calls Tryd.prog 30 #[v] w R := by
  obtain ⟨Bd, hB0, hBs, hBm⟩ : ∃ B : Nat → Nat, B 0 = 0 ∧ (∀ i, i < fs.length → B (i + 1) = B i + (D + 40)) ∧ ∀ i, i ≤ fs.length → B i ≤ 1000000000000 :=
    ⟨fun i => i * (D + 40), by simp, fun i _ => Nat.succ_mul i (D + 40), fun i hi => Nat.le_trans (Nat.mul_le_mul_right _ hi) hn⟩
  clear hn
  have hf1 := hf.1.lt (by decide)
  have hok := hf.2
  clear hf
  obtain ⟨_, A, c, rfl, h1, h2, h3, h4⟩ := hf1
  unfold maxLen at h2
  go_enter Tryd.func30, Tryd.ntmps30
  go_wp2
  go_loopw [4, 3] (fun i s wr => ∃ i' : Nat, i' ≤ fs.length ∧ i = .int .i64 i' ∧ ∃ m : Nat, m ≤ Bd i' ∧ wr.ownsRow w.heap.size 5 1 s m (U8 ((fs.take i').flatMap fput)) ∧ Hid (Grow w wr)) (fun i _ _ => fs.length - (intOf i).toNat)
  case atStart => exact ⟨0, Nat.zero_le _, rfl, 0, by omega, World.ownsRow_nil _ _ _ _, Grow.refl _⟩
  case round =>
    obtain ⟨i, hi, rfl, m, hm, hown, hg⟩ := hrel
    by_cases hlt : i < fs.length
    · obtain ⟨b, o, rfl, hS, hc⟩ := h4 (by omega)
      have hfo := hok fs[i] (List.getElem_mem hlt)
      have hdl := hd fs[i] (List.getElem_mem hlt)
      have hb0 := hBm i (by omega)
      have hb1' := hBm (i + 1) (by omega)
      have hb2' := hBs i hlt
      clear hBm hBs
      have hcc := flat_cells Fld.cells_len hg.out hS hc hlt
      have HT := Lib.hid (take_snoc fs i hlt)
      clear hc h4 h3 hok hd
      generalize hF : fs[i] = f at *
      clear hF
      obtain ⟨num, kind, int, data, dv⟩ := f
      obtain ⟨hf1, hf2, hf3, hf4⟩ := hfo
      have HD := Lib.hid (hf4.gr (by decide) hg.out)
      obtain ⟨_, A2, cap2, hdv, _, hcap2, _, _⟩ := hf4
      dsimp only at hdv hf1 hf2 hf3 hdl
      subst hdv
      have c0 := hcc 0 _ rfl
      have c1 := hcc 1 _ rfl
      have c2 := hcc 2 _ rfl
      have c3 := hcc 3 _ rfl
      simp only [Nat.add_zero] at c0
      clear hcc
      unfold maxLen at hcap2
      have hnum : -9223372036854775808 ≤ num ∧ num ≤ 9223372036854775807 := hf1
      have hm0 := Int.emod_nonneg num (b := 536870912) (by decide)
      have hm1 := Int.emod_lt_of_pos num (b := 536870912) (by decide)
      have hfh : (num % 536870912 * 8 + kind % 8).toNat < 18446744073709551616 := by omega
      generalize hH : (num % 536870912 * 8 + kind % 8).toNat = hd at *
      generalize hL : (fs.take i).flatMap fput = L at *
      have hmL : m = L.length := by have := hown.1; rw [U8_len, Nat.mul_one] at this; exact this.symm
      subst hmL
      have HO := Lib.hid hown
      have HH := Lib.hid hH
      have HL := Lib.hid hL
      clear hH hL hown
      have hb1 := vput_len 9 hd
      obtain ⟨hb1, hb2⟩ := hb1
      have fin : ∀ (r : Value) (w2 : World) (n : Nat) (bs : List UInt8), fput ⟨num, kind, int, data, .slice A2 data.length cap2⟩ = bs → n = (L ++ bs).length → w2.ownsRow w.heap.size 5 1 r n (U8 (L ++ bs)) → bs.length ≤ D + 40 → Hid (Grow w w2) →
          ∃ m : Nat, m ≤ Bd (i + 1) ∧ w2.ownsRow w.heap.size 5 1 r m (U8 ((fs.take (i + 1)).flatMap fput)) ∧ Hid (Grow w w2) := by
        intro r w2 n bs hbs hn2 hown2 hbl hg2
        refine ⟨n, by rw [hn2, List.length_append]; omega, own_eq hown2 rfl ?_, hg2⟩
        rw [HT.out, List.flatMap_append, HL.out, List.flatMap_cons, hbs]
        simp
      have FIN := Lib.hid fin
      clear fin
      have tok1 : True := trivial
      by_cases k0 : kind = 0
      · have hfin : fput ⟨num, kind, int, data, .slice A2 data.length cap2⟩ = vput 9 hd ++ vput 9 int := by unfold fput fhead; dsimp only; rw [if_pos k0, HH.out]
        have hhd : (hd : Int) = 8 * (num % 536870912) + 0 := by have := HH.out; omega
        have hrl : Hid ((vput 9 int).length ≤ D + 20) := by show _ ≤ _; have := vput_len 9 int; omega
        have HF := Lib.hid hfin
        have htm := tmod29 num
        generalize hT : num.tmod 536870912 = T at *
        obtain ⟨ht1, ht2, ht3, ht4⟩ := htm
        subst k0
        clear hfin hf1 hf2 hnum hm0 hm1
        by_cases hneg : T < 0
        all_goals
          have HHD : Hid ((hd : Int) = if T < 0 then 8 * (T + 536870912) + 0 else 8 * T + 0) := by
            show _ = _
            first | (rw [if_pos hneg]; have := ht1 hneg; omega) | (rw [if_neg hneg]; have := ht2 hneg; omega)
          clear ht1 ht2 hhd
          go_wp2_with fail
          refine rbytes_any int _ hf3 ?_
          intro r1 w1 hown1 hg1
          have b1 := box_at hg1
          have HG1 := Lib.hid hg1
          have HO1 := Lib.hid hown1
          clear hown1 hg1
          go_wp2_with fail
          refine rbytes_at hd _ (by have := HHD.out; split at this <;> omega) hfh ?_
          intro r2 w2 hown2 hg2
          have HG2 := Lib.hid hg2
          have HO2 := Lib.hid hown2
          have HGW := Lib.hid (((hg.out.al _).tr HG1.out).tr HG2.out)
          have HOB := Lib.hid (own_grow HO.out ((((Grow.refl wr).al _).tr HG1.out).tr HG2.out))
          have HBL : Hid (∀ k, u3.ownBlock = some k → k < wr.heap.size) := fun k hk => (HO.out.lt k hk).2
          have R1 := Lib.hid ((Rd.own_from HO1.out).gr2 (by decide) HG2.out)
          clear hown2 hg2 b1
          go_wp2_with (first
            | (at_builtin; have _t := tok1; clear tok1 _t; go_must (refine wpList_app rfl _ _ rfl el_u8 HOB.out rfl (Rd.own_lt HO2.out) rfl (U8_one _) (by have := hrl.out; omega) HGW.out.size ?_); go_must (intro v3 w3 hown3 hgr3 hb3; have HO3 := Lib.hid hown3; have HG3 := Lib.hid (grow_app HGW.out hgr3 (own_ge HOB.out)); have R3 := Lib.hid (R1.out.by_ (by decide) hgr3 (fun b hb e => by have h1 := HBL.out b e.symm; have h2 : (World.alloc _ _).heap.size ≤ b := hb; rw [World.size_alloc] at h2; omega)); clear hown3 hgr3 hb3))
            | (at_builtin; go_must (refine wpList_app rfl _ _ rfl el_u8 HO3.out rfl R3.out rfl (U8_one _) (by have := hrl.out; omega) HG3.out.size ?_); go_must (intro v4 w4 hown4 hgr4 hb4; have HG4 := Lib.hid (grow_app HG3.out hgr4 (own_ge HO3.out)); clear hgr4 hb4)))
          go_roundw
          case rel => exact ⟨i + 1, by omega, by go_num, FIN.out _ _ _ _ HF.out (by simp [Nat.add_assoc]) (own_eq hown4 rfl (by rw [← U8_app, ← U8_app, List.append_assoc])) (by have := hrl.out; rw [List.length_append]; omega) HG4⟩
          case measure => simp [intOf]; omega
      · by_cases k1 : kind = 1
        · have hfin : fput ⟨num, kind, int, data, .slice A2 data.length cap2⟩ = vput 9 hd ++ le 8 int := by unfold fput fhead; dsimp only; rw [if_neg k0, if_pos k1, HH.out]
          have hhd : (hd : Int) = 8 * (num % 536870912) + 1 := by have := HH.out; omega
          have hrl : Hid ((le 8 int).length ≤ D + 20) := by show _ ≤ _; rw [le_len]; omega
          have HF := Lib.hid hfin
          have htm := tmod29 num
          generalize hT : num.tmod 536870912 = T at *
          obtain ⟨ht1, ht2, ht3, ht4⟩ := htm
          subst k1
          clear hfin hf1 hf2 hnum hm0 hm1
          by_cases hneg : T < 0
          all_goals
            have HHD : Hid ((hd : Int) = if T < 0 then 8 * (T + 536870912) + 1 else 8 * T + 1) := by
              show _ = _
              first | (rw [if_pos hneg]; have := ht1 hneg; omega) | (rw [if_neg hneg]; have := ht2 hneg; omega)
            clear ht1 ht2 hhd
            go_wp2_with fail
            refine rfixed_any int 8 _ (by decide) hf3 rfl ?_
            intro r1 w1 hown1 hg1
            have hown1 := own_eq hown1 (m := (le 8 int).length) (ys := U8 (le 8 int)) (by simp [le_len]) rfl
            have b1 := box_at hg1
            have HG1 := Lib.hid hg1
            have HO1 := Lib.hid hown1
            clear hown1 hg1
            go_wp2_with fail
            refine rbytes_at hd _ (by have := HHD.out; split at this <;> omega) hfh ?_
            intro r2 w2 hown2 hg2
            have HG2 := Lib.hid hg2
            have HO2 := Lib.hid hown2
            have HGW := Lib.hid (((hg.out.al _).tr HG1.out).tr HG2.out)
            have HOB := Lib.hid (own_grow HO.out ((((Grow.refl wr).al _).tr HG1.out).tr HG2.out))
            have HBL : Hid (∀ k, u3.ownBlock = some k → k < wr.heap.size) := fun k hk => (HO.out.lt k hk).2
            have R1 := Lib.hid ((Rd.own_from HO1.out).gr2 (by decide) HG2.out)
            clear hown2 hg2 b1
            go_wp2_with (first
              | (at_builtin; have _t := tok1; clear tok1 _t; go_must (refine wpList_app rfl _ _ rfl el_u8 HOB.out rfl (Rd.own_lt HO2.out) rfl (U8_one _) (by have := hrl.out; omega) HGW.out.size ?_); go_must (intro v3 w3 hown3 hgr3 hb3; have HO3 := Lib.hid hown3; have HG3 := Lib.hid (grow_app HGW.out hgr3 (own_ge HOB.out)); have R3 := Lib.hid (R1.out.by_ (by decide) hgr3 (fun b hb e => by have h1 := HBL.out b e.symm; have h2 : (World.alloc _ _).heap.size ≤ b := hb; rw [World.size_alloc] at h2; omega)); clear hown3 hgr3 hb3))
              | (at_builtin; go_must (refine wpList_app rfl _ _ rfl el_u8 HO3.out rfl R3.out rfl (U8_one _) (by have := hrl.out; omega) HG3.out.size ?_); go_must (intro v4 w4 hown4 hgr4 hb4; have HG4 := Lib.hid (grow_app HG3.out hgr4 (own_ge HO3.out)); clear hgr4 hb4)))
            go_roundw
            case rel => exact ⟨i + 1, by omega, by go_num, FIN.out _ _ _ _ HF.out (by simp [Nat.add_assoc]) (own_eq hown4 rfl (by rw [← U8_app, ← U8_app, List.append_assoc])) (by have := hrl.out; rw [List.length_append]; omega) HG4⟩
            case measure => simp [intOf]; omega
        · by_cases k5 : kind = 5
          · have hfin : fput ⟨num, kind, int, data, .slice A2 data.length cap2⟩ = vput 9 hd ++ le 4 int := by unfold fput fhead; dsimp only; rw [if_neg k0, if_neg k1, if_pos k5, HH.out]
            have hhd : (hd : Int) = 8 * (num % 536870912) + 5 := by have := HH.out; omega
            have hrl : Hid ((le 4 int).length ≤ D + 20) := by show _ ≤ _; rw [le_len]; omega
            have HF := Lib.hid hfin
            have htm := tmod29 num
            generalize hT : num.tmod 536870912 = T at *
            obtain ⟨ht1, ht2, ht3, ht4⟩ := htm
            subst k5
            clear hfin hf1 hf2 hnum hm0 hm1
            by_cases hneg : T < 0
            all_goals
              have HHD : Hid ((hd : Int) = if T < 0 then 8 * (T + 536870912) + 5 else 8 * T + 5) := by
                show _ = _
                first | (rw [if_pos hneg]; have := ht1 hneg; omega) | (rw [if_neg hneg]; have := ht2 hneg; omega)
              clear ht1 ht2 hhd
              go_wp2_with fail
              refine rfixed_any int 4 _ (by decide) hf3 rfl ?_
              intro r1 w1 hown1 hg1
              have hown1 := own_eq hown1 (m := (le 4 int).length) (ys := U8 (le 4 int)) (by simp [le_len]) rfl
              have b1 := box_at hg1
              have HG1 := Lib.hid hg1
              have HO1 := Lib.hid hown1
              clear hown1 hg1
              go_wp2_with fail
              refine rbytes_at hd _ (by have := HHD.out; split at this <;> omega) hfh ?_
              intro r2 w2 hown2 hg2
              have HG2 := Lib.hid hg2
              have HO2 := Lib.hid hown2
              have HGW := Lib.hid (((hg.out.al _).tr HG1.out).tr HG2.out)
              have HOB := Lib.hid (own_grow HO.out ((((Grow.refl wr).al _).tr HG1.out).tr HG2.out))
              have HBL : Hid (∀ k, u3.ownBlock = some k → k < wr.heap.size) := fun k hk => (HO.out.lt k hk).2
              have R1 := Lib.hid ((Rd.own_from HO1.out).gr2 (by decide) HG2.out)
              clear hown2 hg2 b1
              go_wp2_with (first
                | (at_builtin; have _t := tok1; clear tok1 _t; go_must (refine wpList_app rfl _ _ rfl el_u8 HOB.out rfl (Rd.own_lt HO2.out) rfl (U8_one _) (by have := hrl.out; omega) HGW.out.size ?_); go_must (intro v3 w3 hown3 hgr3 hb3; have HO3 := Lib.hid hown3; have HG3 := Lib.hid (grow_app HGW.out hgr3 (own_ge HOB.out)); have R3 := Lib.hid (R1.out.by_ (by decide) hgr3 (fun b hb e => by have h1 := HBL.out b e.symm; have h2 : (World.alloc _ _).heap.size ≤ b := hb; rw [World.size_alloc] at h2; omega)); clear hown3 hgr3 hb3))
                | (at_builtin; go_must (refine wpList_app rfl _ _ rfl el_u8 HO3.out rfl R3.out rfl (U8_one _) (by have := hrl.out; omega) HG3.out.size ?_); go_must (intro v4 w4 hown4 hgr4 hb4; have HG4 := Lib.hid (grow_app HG3.out hgr4 (own_ge HO3.out)); clear hgr4 hb4)))
              go_roundw
              case rel => exact ⟨i + 1, by omega, by go_num, FIN.out _ _ _ _ HF.out (by simp [Nat.add_assoc]) (own_eq hown4 rfl (by rw [← U8_app, ← U8_app, List.append_assoc])) (by have := hrl.out; rw [List.length_append]; omega) HG4⟩
              case measure => simp [intOf]; omega
          · by_cases k2 : kind = 2
            · have hfin : fput ⟨num, kind, int, data, .slice A2 data.length cap2⟩ = vput 9 hd ++ (vput 9 data.length ++ data) := by unfold fput fhead; dsimp only; rw [if_neg k0, if_neg k1, if_neg k5, if_pos k2, HH.out]
              have hhd : (hd : Int) = 8 * (num % 536870912) + 2 := by have := HH.out; omega
              have hrl : Hid (((vput 9 data.length ++ data)).length ≤ D + 20) := by show _ ≤ _; have := vput_len 9 data.length; rw [List.length_append]; omega
              have HF := Lib.hid hfin
              have htm := tmod29 num
              generalize hT : num.tmod 536870912 = T at *
              obtain ⟨ht1, ht2, ht3, ht4⟩ := htm
              subst k2
              clear hfin hf1 hf2 hnum hm0 hm1
              by_cases hneg : T < 0
              all_goals
                have HHD : Hid ((hd : Int) = if T < 0 then 8 * (T + 536870912) + 2 else 8 * T + 2) := by
                  show _ = _
                  first | (rw [if_pos hneg]; have := ht1 hneg; omega) | (rw [if_neg hneg]; have := ht2 hneg; omega)
                clear ht1 ht2 hhd
                obtain ⟨hvl0, hvl⟩ := vput_len 9 data.length
                have w64 : IntKind.u64.wrap (data.length : Int) = data.length := IntWalk.u64_in _ (by omega)
                go_wp2_with fail
                go_region_held3 (fun w' => w'.cell? ⟨wr.heap.size, 3, none⟩ = some (.slice A2 data.length cap2))
                  (first | (exact (box_at (Grow.dr (Grow.refl _)) 3)) | (exact (box_at (by assumption) 3)) | skip)
                  ((first | (go_at_call 52; refine rbytes_any data.length _ (by omega) ?_; intro r2 w2 hown2 hg2; have hg2 := grow_drew hg2) | (refine step_app (by rfl) _ _ (by rfl) el_u8 hown2 (by rfl) (HD.out.gr (by decide) (grow_al hg2)) (by rfl) (U8_one _) (by omega) hg2.size ?_; intro r1 w1 hown1 hgr1 hb1; have hg1 := grow_app hg2 hgr1 (own_ge hown2))))
                have hown1 := own_eq hown1 (m := (vput 9 data.length ++ data).length) (ys := U8 (vput 9 data.length ++ data)) (by rw [List.length_append]) (by rw [U8_app])
                clear hgr1 hb1 hown2 hg2 hvl0 hvl w64
                have b1 := box_at hg1
                have HG1 := Lib.hid hg1
                have HO1 := Lib.hid hown1
                clear hown1 hg1
                go_wp2_with fail
                refine rbytes_at hd _ (by have := HHD.out; split at this <;> omega) hfh ?_
                intro r2 w2 hown2 hg2
                have HG2 := Lib.hid hg2
                have HO2 := Lib.hid hown2
                have HGW := Lib.hid (((hg.out.al _).tr HG1.out).tr HG2.out)
                have HOB := Lib.hid (own_grow HO.out ((((Grow.refl wr).al _).tr HG1.out).tr HG2.out))
                have HBL : Hid (∀ k, u3.ownBlock = some k → k < wr.heap.size) := fun k hk => (HO.out.lt k hk).2
                have R1 := Lib.hid ((Rd.own_from HO1.out).gr2 (by decide) HG2.out)
                clear hown2 hg2 b1
                go_wp2_with (first
                  | (at_builtin; have _t := tok1; clear tok1 _t; go_must (refine wpList_app rfl _ _ rfl el_u8 HOB.out rfl (Rd.own_lt HO2.out) rfl (U8_one _) (by have := hrl.out; omega) HGW.out.size ?_); go_must (intro v3 w3 hown3 hgr3 hb3; have HO3 := Lib.hid hown3; have HG3 := Lib.hid (grow_app HGW.out hgr3 (own_ge HOB.out)); have R3 := Lib.hid (R1.out.by_ (by decide) hgr3 (fun b hb e => by have h1 := HBL.out b e.symm; have h2 : (World.alloc _ _).heap.size ≤ b := hb; rw [World.size_alloc] at h2; omega)); clear hown3 hgr3 hb3))
                  | (at_builtin; go_must (refine wpList_app rfl _ _ rfl el_u8 HO3.out rfl R3.out rfl (U8_one _) (by have := hrl.out; omega) HG3.out.size ?_); go_must (intro v4 w4 hown4 hgr4 hb4; have HG4 := Lib.hid (grow_app HG3.out hgr4 (own_ge HO3.out)); clear hgr4 hb4)))
                go_roundw
                case rel => exact ⟨i + 1, by omega, by go_num, FIN.out _ _ _ _ HF.out (by simp [Nat.add_assoc]) (own_eq hown4 rfl (by rw [← U8_app, ← U8_app, List.append_assoc])) (by have := hrl.out; rw [List.length_append]; omega) HG4⟩
                case measure => simp [intOf]; omega
            · have t0 : (kind == 0) = false := by simp [k0]
              have t1 : (kind == 1) = false := by simp [k1]
              have t5 : (kind == 5) = false := by simp [k5]
              have t2 : (kind == 2) = false := by simp [k2]
              have hfin : fput ⟨num, kind, int, data, .slice A2 data.length cap2⟩ = [] := by unfold fput; dsimp only; rw [if_neg k0, if_neg k1, if_neg k5, if_neg k2]
              have HF := Lib.hid hfin
              clear hfin k0 k1 k5 k2
              by_cases hneg : num.tmod 536870912 < 0
              all_goals
                go_wp2
                go_roundw
                case rel => exact ⟨i + 1, by omega, by go_num, FIN.out _ _ _ _ HF.out (by rw [List.append_nil]) (own_eq (own_grow HO.out ((Grow.refl wr).al _)) rfl (by rw [List.append_nil])) (by simp) (hg.out.al _)⟩
                case measure => simp [intOf]; omega
    · obtain rfl : i = fs.length := by omega
      go_wp2
      exact hR _ _ (own_eq hown (by have := hown.1; rw [U8_len, List.take_length] at this; omega) (by rw [List.take_length])) hg.out
theorem rput_any (fs : List Fld) (v : Value) (S : Nat → Prop) (w : World) (hf : Flds w S v fs) (hn : fs.length ≤ 400) (hd : ∀ f ∈ fs, f.data.length ≤ 2000)
    {R : Ending → World → Prop} (hR : ∀ r w', w'.ownsRow w.heap.size 5 1 r (fs.flatMap fput).length (U8 (fs.flatMap fput)) → Grow w w' → R (.returned r) w') :
    Calls Tryd.prog 30 #[v] w R := rput_anyD 2000 fs v S w hf (by omega) hd hR
end Go.Proofs.YtjalimkajcjapaaDoor
