import Derived.Test.YtehffeglgdcogaaDoorChecked
import Derived.Test.YtehffeglgdcogaaDoorBase
import Derived.Test.YtehffeglgdcogaaDoorBits
import Derived.Test.YtehffeglgdcogaaDoorWire3
namespace Go.Proofs.YtehffeglgdcogaaDoor
open Go.RowKit

/-- a field: what it holds; and the slice value in which its bytes lie -/
structure Fld where
  num : Int
  kind : Int
  int : Nat
  data : List UInt8
  dv : Value

def Fld.cells (f : Fld) : List Value := [.int .i64 f.num, .int .i64 f.kind, .int .u64 f.int, f.dv]
theorem Fld.cells_len (f : Fld) : f.cells.length = 4 := rfl

def Fld.ok (w : World) (S : Nat → Prop) (f : Fld) : Prop := I64 f.num ∧ I64 f.kind ∧ f.int < 18446744073709551616 ∧ Rd w S 1 f.dv f.data.length (U8 f.data)

/-- fields that came in -/
def Flds (w : World) (S : Nat → Prop) (v : Value) (l : List Fld) : Prop := Rd w S 4 v l.length (l.flatMap Fld.cells) ∧ ∀ f ∈ l, f.ok w S

/-- one field's bytes -/
def fhead (f : Fld) : Nat := (f.num % 536870912 * 8 + f.kind % 8).toNat
def fput (f : Fld) : List UInt8 :=
  if f.kind = 0 then vput 9 (fhead f) ++ vput 9 f.int
  else if f.kind = 1 then vput 9 (fhead f) ++ le 8 f.int
  else if f.kind = 5 then vput 9 (fhead f) ++ le 4 f.int
  else if f.kind = 2 then vput 9 (fhead f) ++ (vput 9 f.data.length ++ f.data)
  else []

theorem take_snoc {α : Type} (l : List α) (k : Nat) (h : k < l.length) : l.take (k + 1) = l.take k ++ [l[k]] := by
  rw [List.take_succ_eq_append_getElem h]

set_option maxRecDepth 100000 in
set_option maxHeartbeats 1000000 in
theorem put_any (fs : List Fld) (v : Value) (S : Nat → Prop) (w : World) (hf : Flds w S v fs) (hn : fs.length ≤ 400) (hd : ∀ f ∈ fs, f.data.length ≤ 2000)
    {R : Ending → World → Prop} (hR : ∀ r w', w'.ownsRow w.heap.size 5 1 r (fs.flatMap fput).length (U8 (fs.flatMap fput)) → Grow w w' → R (.returned r) w') :
    Calls Tryd.prog 33 #[v] w R := by
  have hf1 := hf.1.lt (by decide)
  have hok := hf.2
  clear hf
  obtain ⟨_, A, c, rfl, h1, h2, h3, h4⟩ := hf1
  unfold maxLen at h2
  go_enter Tryd.func33, Tryd.ntmps33
  go_wp2
  go_loopw [9, 3] (fun i s wr => ∃ i' : Nat, i' ≤ fs.length ∧ i = .int .i64 i' ∧ ∃ m : Nat, m ≤ i' * 2040 ∧ wr.ownsRow w.heap.size 5 1 s m (U8 ((fs.take i').flatMap fput)) ∧ Hid (Grow w wr)) (fun i _ _ => fs.length - (intOf i).toNat)
  case atStart => exact ⟨0, Nat.zero_le _, rfl, 0, by omega, World.ownsRow_nil _ _ _ _, Grow.refl _⟩
  case round =>
    obtain ⟨i, hi, rfl, m, hm, hown, hg⟩ := hrel
    by_cases hlt : i < fs.length
    · obtain ⟨b, o, rfl, hS, hc⟩ := h4 (by omega)
      have hfo := hok fs[i] (List.getElem_mem hlt)
      have hdl := hd fs[i] (List.getElem_mem hlt)
      have hcc := flat_cells Fld.cells_len hg.out hS hc hlt
      have HT := Lib.hid (take_snoc fs i hlt)
      clear hc h4 h3 hok hd
      generalize hF : fs[i] = f at *
      clear hF
      obtain ⟨num, kind, int, data, dv⟩ := f
      obtain ⟨hf1, hf2, hf3, hf4⟩ := hfo
      have HD := Lib.hid (hf4.gr (by decide) hg.out)
      obtain ⟨_, A2, cap2, hdv, _, hcap2, _, _⟩ := hf4
      dsimp only at hdv hf1 hf2 hf3 hdl
      subst hdv
      have c0 := hcc 0 _ rfl
      have c1 := hcc 1 _ rfl
      have c2 := hcc 2 _ rfl
      have c3 := hcc 3 _ rfl
      simp only [Nat.add_zero] at c0
      clear hcc
      unfold maxLen at hcap2
      have hh := head_bits num kind
      have hfh : (num % 536870912 * 8 + kind % 8).toNat < 18446744073709551616 := by omega
      generalize hH : (num % 536870912 * 8 + kind % 8).toNat = hd at *
      generalize hL : (fs.take i).flatMap fput = L at *
      have hmL : m = L.length := by have := hown.1; rw [U8_len, Nat.mul_one] at this; exact this.symm
      subst hmL
      have HO := Lib.hid hown
      have HH := Lib.hid hH
      have HL := Lib.hid hL
      clear hH hL hown
      have hb1 := vput_len 9 hd
      obtain ⟨hb1, hb2⟩ := hb1
      have fin : ∀ (r : Value) (w2 : World) (n : Nat) (bs : List UInt8), fput ⟨num, kind, int, data, .slice A2 data.length cap2⟩ = bs → n = (L ++ bs).length → w2.ownsRow w.heap.size 5 1 r n (U8 (L ++ bs)) → bs.length ≤ 2040 → Hid (Grow w w2) →
          ∃ m : Nat, m ≤ (i + 1) * 2040 ∧ w2.ownsRow w.heap.size 5 1 r m (U8 ((fs.take (i + 1)).flatMap fput)) ∧ Hid (Grow w w2) := by
        intro r w2 n bs hbs hn2 hown2 hbl hg2
        refine ⟨n, by rw [hn2, List.length_append]; omega, own_eq hown2 rfl ?_, hg2⟩
        rw [HT.out, List.flatMap_append, HL.out, List.flatMap_cons, hbs]
        simp
      have FIN := Lib.hid fin
      clear fin
      by_cases k0 : kind = 0
      · have t0 : (kind == 0) = true := by simp [k0]
        have K0 := Lib.hid k0
        clear k0
        go_wp2_with fail
        refine putVarint_any L _ hd _ _ ((Rd.own HO.out).al (by decide) _) (by omega) hfh ?_
        intro r1 w1 hown1 hg1
        have b1 := box_at hg1
        have HG1 := Lib.hid hg1
        have HO1 := Lib.hid hown1
        clear hown1 hg1
        go_wp2_with fail
        refine putVarint_any (L ++ vput 9 hd) _ int _ _ (Rd.own HO1.out) (by rw [List.length_append]; omega) hf3 ?_
        intro r2 w2 hown2 hg2
        have HG2 := Lib.hid hg2
        have HO2 := Lib.hid hown2
        clear hown2 hg2 b1
        go_wp2
        go_roundw
        case rel => exact ⟨i + 1, by omega, by go_num, FIN.out _ _ _ (vput 9 hd ++ vput 9 int) (by unfold fput fhead; dsimp only; rw [if_pos K0.out, HH.out]) (by rw [List.append_assoc]) (own_base (own_eq HO2.out rfl (by rw [List.append_assoc])) ((hg.out.al _).tr HG1.out).size) (by have := vput_len 9 int; rw [List.length_append]; omega) (((hg.out.al _).tr HG1.out).tr HG2.out)⟩
        case measure => simp [intOf]; omega
      · have t0 : (kind == 0) = false := by simp [k0]
        have K0 := Lib.hid k0
        clear k0
        by_cases k1 : kind = 1
        · have t1 : (kind == 1) = true := by simp [k1]
          have K1 := Lib.hid k1
          clear k1
          go_wp2_with fail
          refine putVarint_any L _ hd _ _ ((Rd.own HO.out).al (by decide) _) (by omega) hfh ?_
          intro r1 w1 hown1 hg1
          have b1 := box_at hg1
          have HG1 := Lib.hid hg1
          have HO1 := Lib.hid hown1
          clear hown1 hg1
          go_wp2_with fail
          refine fixed_any _ _ _ _ int 8 w _ HO1.out ((hg.out.al _).tr HG1.out) ⟨(hg.out.al _).size, HG1.out.size⟩ (by rw [List.length_append]; omega) (by decide) rfl ?_
          intro r2 w2 hown2 hg2
          have HG2 := Lib.hid hg2
          have HO2 := Lib.hid hown2
          clear hown2 hg2 b1
          go_wp2
          go_roundw
          case rel => exact ⟨i + 1, by omega, by go_num, FIN.out _ _ _ (vput 9 hd ++ le 8 int) (by unfold fput fhead; dsimp only; rw [if_neg K0.out, if_pos K1.out, HH.out]) (by simp [le_len, Nat.add_assoc]) (own_base (own_eq HO2.out rfl (by rw [← U8_app, List.append_assoc])) (hg.out.al _).size) (by rw [List.length_append, le_len]; omega) HG2⟩
          case measure => simp [intOf]; omega
        · have t1 : (kind == 1) = false := by simp [k1]
          have K1 := Lib.hid k1
          clear k1
          by_cases k5 : kind = 5
          · have t5 : (kind == 5) = true := by simp [k5]
            have K5 := Lib.hid k5
            clear k5
            go_wp2_with fail
            refine putVarint_any L _ hd _ _ ((Rd.own HO.out).al (by decide) _) (by omega) hfh ?_
            intro r1 w1 hown1 hg1
            have b1 := box_at hg1
            have HG1 := Lib.hid hg1
            have HO1 := Lib.hid hown1
            clear hown1 hg1
            go_wp2_with fail
            refine fixed_any _ _ _ _ int 4 w _ HO1.out ((hg.out.al _).tr HG1.out) ⟨(hg.out.al _).size, HG1.out.size⟩ (by rw [List.length_append]; omega) (by decide) rfl ?_
            intro r2 w2 hown2 hg2
            have HG2 := Lib.hid hg2
            have HO2 := Lib.hid hown2
            clear hown2 hg2 b1
            go_wp2
            go_roundw
            case rel => exact ⟨i + 1, by omega, by go_num, FIN.out _ _ _ (vput 9 hd ++ le 4 int) (by unfold fput fhead; dsimp only; rw [if_neg K0.out, if_neg K1.out, if_pos K5.out, HH.out]) (by simp [le_len, Nat.add_assoc]) (own_base (own_eq HO2.out rfl (by rw [← U8_app, List.append_assoc])) (hg.out.al _).size) (by rw [List.length_append, le_len]; omega) HG2⟩
            case measure => simp [intOf]; omega
          · have t5 : (kind == 5) = false := by simp [k5]
            have K5 := Lib.hid k5
            clear k5
            by_cases k2 : kind = 2
            · have t2 : (kind == 2) = true := by simp [k2]
              have K2 := Lib.hid k2
              clear k2
              go_wp2_with fail
              refine putVarint_any L _ hd _ _ ((Rd.own HO.out).al (by decide) _) (by omega) hfh ?_
              intro r1 w1 hown1 hg1
              have b1 := box_at hg1
              have HG1 := Lib.hid hg1
              have HO1 := Lib.hid hown1
              clear hown1 hg1
              obtain ⟨hvl0, hvl⟩ := vput_len 9 data.length
              have w64 : IntKind.u64.wrap (data.length : Int) = data.length := IntWalk.u64_in _ (by omega)
              go_wp2_with fail
              go_region_held3 (fun w' => w'.cell? ⟨wr.heap.size, 3, none⟩ = some (.slice A2 data.length cap2))
                (first | (exact (box_at HG1.out 3)) | (exact (box_at (HG1.out.tr (by assumption)) 3)) | skip)
                ((first | (go_at_call 45; refine putVarint_any (L ++ vput 9 hd) _ data.length _ _ (by exact Rd.own HO1.out) (by rw [List.length_append]; omega) (by omega) ?_; intro r2 w2 hown2 hg2; have hg2 := grow_drew hg2) | (refine step_app (by rfl) _ _ (by rfl) el_u8 hown2 (by rfl) (HD.out.grow ((((Grow.refl wr).al _).tr HG1.out).tr hg2 |>.mono hg.out.size)) (by rfl) (U8_one _) (by simp only [List.length_append]; omega) hg2.size ?_; intro v3 w3 hown3 hgr3 hb3; have hg3 : Grow w1 w3 := grow_app hg2 hgr3 (own_ge hown2))))
              clear b1
              have HO3 := Lib.hid hown3
              have HG3 := Lib.hid (HG1.out.tr hg3)
              clear hown3 hg3 hgr3 hb3 hown2 hg2
              go_wp2
              go_roundw
              case rel => exact ⟨i + 1, by omega, by go_num, FIN.out _ _ _ (vput 9 hd ++ (vput 9 data.length ++ data)) (by unfold fput fhead; dsimp only; rw [if_neg K0.out, if_neg K1.out, if_neg K5.out, if_pos K2.out, HH.out]) (by simp [Nat.add_assoc]) (own_base (own_eq HO3.out rfl (by rw [← U8_app, List.append_assoc, List.append_assoc])) ((hg.out.al _).tr HG1.out).size) (by rw [List.length_append, List.length_append]; omega) ((hg.out.al _).tr HG3.out)⟩
              case measure => simp [intOf]; omega
            · have t2 : (kind == 2) = false := by simp [k2]
              have K2 := Lib.hid k2
              clear k2
              go_wp2_with fail
              refine putVarint_any L _ hd _ _ ((Rd.own HO.out).al (by decide) _) (by omega) hfh ?_
              intro r1 w1 hown1 hg1
              have b1 := box_at hg1
              have HG1 := Lib.hid hg1
              clear hown1 hg1
              go_wp2
              go_roundw
              case rel => exact ⟨i + 1, by omega, by go_num, FIN.out _ _ _ [] (by unfold fput fhead; dsimp only; rw [if_neg K0.out, if_neg K1.out, if_neg K5.out, if_neg K2.out]) (by rw [List.append_nil]) (own_eq (own_grow HO.out (grow_al HG1.out)) rfl (by rw [List.append_nil])) (by simp) ((hg.out.al _).tr HG1.out)⟩
              case measure => simp [intOf]; omega
    · obtain rfl : i = fs.length := by omega
      go_wp2
      exact hR _ _ (own_eq hown (by have := hown.1; rw [U8_len, List.take_length] at this; omega) (by rw [List.take_length])) hg.out
end Go.Proofs.YtehffeglgdcogaaDoor
