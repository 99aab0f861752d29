import Derived.Test.YtjalimkajcjapaaDoorWireA
import Derived.Test.YtjalimkajcjapaaDoorRowsA
namespace Go.Proofs.YtjalimkajcjapaaDoor
open Go.RowKit Go.Lib

theorem el_fld : Elem Tryd.prog 47 51 (.agg #[.int .i64 0, .int .i64 0, .int .u64 0, .slice none 0 0]) 4 48 := ⟨by kernel_rfl, by kernel_rfl, rfl, by decide, by decide⟩
theorem and_u64_7 (a : Nat) (h : a < 18446744073709551616) : bits .and .u64 (a : Int) 7 = ((a % 8 : Nat) : Int) := by
  have h := bits_and_u64_nat a 7 h (by decide)
  rw [show (7 : Nat) = 2 ^ 3 - 1 from rfl, Nat.and_two_pow_sub_one_eq_mod] at h
  exact h
def Fld.fd (f : Fld) : FD := ⟨f.num, f.kind, f.int, f.data⟩
/-- fields whose bytes hang elsewhere than in the row itself -/
def FldsIn (w : World) (v : Value) (fs : List Fld) : Prop := ∀ f ∈ fs, f.ok w (Ins v)
theorem FldsIn.grow {w w' : World} {v : Value} {fs : List Fld} (h : FldsIn w v fs) (hg : Grow w w') : FldsIn w' v fs :=
  fun f hf => ⟨(h f hf).1, (h f hf).2.1, (h f hf).2.2.1, (h f hf).2.2.2.gr2 (by decide) hg⟩
theorem FldsIn.app {w w' : World} {v v' : Value} {fs : List Fld} {f : Fld} (h : FldsIn w v fs) (hf : f.ok w (Ins v)) (hg : w.grownBy w' v.ownBlock) (hb : v'.ownBlock = v.ownBlock ∨ v'.ownBlock = some (w.heap.size + 1)) : FldsIn w' v' (fs ++ [f]) := by
  intro q hq
  rcases List.mem_append.1 hq with hq | hq
  · exact ⟨(h q hq).1, (h q hq).2.1, (h q hq).2.2.1, (h q hq).2.2.2.ins_app (by decide) hg hb⟩
  · rw [List.mem_singleton.1 hq]
    exact ⟨hf.1, hf.2.1, hf.2.2.1, hf.2.2.2.ins_app (by decide) hg hb⟩

theorem Rd.ins_app2 {w w' : World} {size n m : Nat} {v v' x : Value} {xs : List Value} (h : Rd w (Ins v) size x n xs) (h0 : 0 < size) (hg : w.grownBy w' v.ownBlock) (hm : w.heap.size ≤ m) (hb : v'.ownBlock = v.ownBlock ∨ v'.ownBlock = some m) : Rd w' (Ins v') size x n xs := by
  have h1 := (h.and_lt h0).by_ h0 hg (fun b hb => hb.1)
  refine h1.into fun b hb1 => ?_
  unfold Ins at hb1 ⊢
  rcases hb with hb | hb
  · rw [hb]; exact hb1.1
  · rw [hb]
    intro e
    injection e with e
    omega
theorem FldsIn.app1 {w w' : World} {v v' : Value} {fs : List Fld} {f : Fld} {m : Nat} (h : FldsIn w v fs) (hf : f.ok w (Ins v)) (hg : w.grownBy w' v.ownBlock) (hm : w.heap.size ≤ m) (hb : v'.ownBlock = v.ownBlock ∨ v'.ownBlock = some m) : FldsIn w' v' (fs ++ [f]) := by
  intro q hq
  rcases List.mem_append.1 hq with hq | hq
  · exact ⟨(h q hq).1, (h q hq).2.1, (h q hq).2.2.1, (h q hq).2.2.2.ins_app2 (by decide) hg hm hb⟩
  · rw [List.mem_singleton.1 hq]
    exact ⟨hf.1, hf.2.1, hf.2.2.1, hf.2.2.2.ins_app2 (by decide) hg hm hb⟩

set_option maxRecDepth 100000 in
set_option maxHeartbeats 4000000 in
theorem get_any (l : List UInt8) (v : Value) (S : Nat → Prop) (w : World) (hb : Rd w S 1 v l.length (U8 l)) (hl : l.length ≤ 1000000000000) {R : Ending → World → Prop}
    (hR : ∀ r fs w', w'.ownsRow w.heap.size 51 4 r fs.length (fs.flatMap Fld.cells) → FldsIn w' r fs → fs.map Fld.fd = (get l).1 → Grow w w' → R (.returned (.tuple #[r, .int .i64 (get l).2])) w') :
    Calls Tryd.prog 22 #[v] w R := by
  have hb := hb.lt (by decide)
  have HB := Lib.hid hb
  obtain ⟨_, A, c, rfl, h1, h2, _, _⟩ := hb
  unfold maxLen at h2
  have HR := Lib.hid hR
  clear hR
  go_enter Tryd.func22, Tryd.ntmps22
  go_wp2
  go_loopw [5, 4] (fun i s wr => ∃ (k f : Nat) (acc : List Fld), k ≤ l.length ∧ i = .int .i64 k ∧ Hid (l.length - k < f) ∧ Hid (get l = getGo l f k (acc.map Fld.fd)) ∧ acc.length ≤ k ∧ wr.ownsRow w.heap.size 51 4 s acc.length (acc.flatMap Fld.cells) ∧ Hid (FldsIn wr s acc) ∧ Hid (Grow w wr)) (fun i _ _ => l.length - (intOf i).toNat)
  case atStart => exact ⟨0, l.length + 1, [], Nat.zero_le _, rfl, by show _ < _; omega, rfl, by simp, World.ownsRow_nil _ _ _ _, fun f hf => by simp at hf, Grow.refl _⟩
  case round =>
    obtain ⟨k, f, acc, hk, rfl, hf, hu, hal, hown, hin, hg⟩ := hrel
    by_cases hlt : k < l.length
    · have HO := Lib.hid hown
      clear hown
      have H := fun S h => varint_any l (.slice A l.length c) k S wr h (by omega)
      obtain ⟨f, rfl⟩ := Nat.exists_eq_succ_of_ne_zero (show f ≠ 0 by have := hf.out; omega)
      have hnk : ¬ l.length ≤ k := by omega
      have E1 := @getGo_err l f k (acc.map Fld.fd) hnk
      have E2 := @getGo_num l f k (acc.map Fld.fd) hnk
      have E3 := @getGo_body l f k (acc.map Fld.fd) hnk
      have E4 := @getGo_more l f k (acc.map Fld.fd) hnk
      have hok := fun {v nx : Int} => @varint_ok l k v nx
      have hbd := fun {v nx : Int} => @varint_bd l k v nx
      generalize varint l k = X at *
      obtain ⟨x, nx, e⟩ := X
      dsimp only at H E1 E2 E3 E4
      have H := Lib.hid H
      by_cases he : e = 0
      · subst he
        obtain ⟨hx0, _, hn1, hn2⟩ := hok rfl
        obtain ⟨hx1, -⟩ := hbd rfl
        obtain ⟨x, rfl⟩ := Int.eq_ofNat_of_zero_le hx0
        obtain ⟨nx, rfl⟩ := Int.eq_ofNat_of_zero_le (show 0 ≤ nx by omega)
        have A7 := Lib.hid (and_u64_7 x (by omega))
        have e8 : ((x : Int) % 8).toNat = x % 8 := by omega
        have e9 : ((x : Int) / 8) = ((x / 8 : Nat) : Int) := by omega
        have e10 : ((x : Int) % 8) = ((x % 8 : Nat) : Int) := by omega
        rw [e8, e9] at E3 E4
        rw [e9] at E2
        rw [e10] at E4
        simp only [Int.toNat_natCast] at E3 E4
        have E2 := Lib.hid (E2 (by first | rfl | trivial))
        have E3 := Lib.hid (E3 (by first | rfl | trivial))
        have E4 := Lib.hid (E4 (by first | rfl | trivial))
        clear E1 hok hbd hnk e8 e9 e10
        by_cases hnum : x / 8 < 1 ∨ 536870911 < x / 8
        · have HH := HR.out (.slice none 0 0) []
          rw [hu.out, E2.out (by omega)] at HH
          have HH := Lib.hid HH
          clear E2 E3 E4
          rcases hnum with hn | hn
          · have q1 : decide ((x : Int) / 8 < 1) = true := by simp; omega
            go_wp2_with fail
            refine (H.out _ (HB.out.grow hg.out)).mono ?_
            rintro e w' ⟨rfl, rfl⟩
            go_wp2
            exact HH.out _ (World.ownsRow_nil _ _ _ _) (fun f hf => by simp at hf) rfl hg.out
          · have q1 : decide ((x : Int) / 8 < 1) = false := by simp; omega
            have q2 : decide (536870911 < (x : Int) / 8) = true := by simp; omega
            go_wp2_with fail
            refine (H.out _ (HB.out.grow hg.out)).mono ?_
            rintro e w' ⟨rfl, rfl⟩
            go_wp2
            exact HH.out _ (World.ownsRow_nil _ _ _ _) (fun f hf => by simp at hf) rfl hg.out
        · have q1 : decide ((x : Int) / 8 < 1) = false := by simp; omega
          have q2 : decide (536870911 < (x : Int) / 8) = false := by simp; omega
          have E3 := Lib.hid (E3.out (by omega))
          have E4 := Lib.hid (E4.out (by omega))
          clear E2
          have BO := fun {n : Nat} {d : List UInt8} {z : Int} => @bodyS_ok l nx (x % 8) n d z (by omega)
          have HBD := Lib.hid fun (R : Ending → World → Prop) hR => body_any l (.slice A l.length c) nx (x % 8) _ wr (HB.out.gr2 (by decide) hg.out) (by omega) (by omega) (by omega) (R := R) hR
          have a7 := A7.out
          have hkd8 : x % 8 < 8 := by omega
          generalize bodyS l nx (x % 8) = Y at *
          obtain ⟨n, d, z, e⟩ := Y
          dsimp only at HBD E3 E4
          clear A7
          generalize x % 8 = kd at *
          go_wp2_with fail
          refine (H.out _ (HB.out.grow hg.out)).mono ?_
          rintro e' w' ⟨rfl, rfl⟩
          clear H
          go_wp2_with fail
          refine HBD.out _ ?_
          intro dv w1 hg1 hrd
          have G1 := Lib.hid (hg.out.tr hg1)
          have HO1 := Lib.hid (own_grow HO.out hg1)
          have IN1 := Lib.hid (hin.out.grow hg1)
          have RD1 : Hid (Rd w1 (Ins u4) 1 dv d.length (U8 d)) := hrd.into fun b hb e => by
            have := (HO.out.lt b e.symm).2
            omega
          obtain ⟨_, A5, c5, rfl, -, -, -, -⟩ := hrd
          clear hg1 HBD
          by_cases he : e = 0
          · subst he
            obtain ⟨o1, o2, o3, o4⟩ := BO rfl
            obtain ⟨z, rfl⟩ := Int.eq_ofNat_of_zero_le (show 0 ≤ z by omega)
            have E5 := Lib.hid (E4.out (by first | rfl | trivial))
            clear E3 BO E4
            obtain ⟨num, n1, n2, n3⟩ : ∃ num : Nat, (x : Int) / 8 = num ∧ x / 8 = num ∧ 1 ≤ num ∧ num ≤ 536870911 := ⟨x / 8, by omega, rfl, by omega⟩
            rw [n2] at E5
            clear q1 q2 n2
            go_wp2_with (at_builtin; refine wpList_newAt rfl _ _ rfl el_fld (own_grow HO1.out ((Grow.refl _).al _)) rfl 1 _ (World.size_alloc _ _) _ rfl (by decide) rfl (by simp [Value.oneCell']) (by omega) (G1.out.al _) ⟨Nat.le_refl _, (G1.out.al _).size⟩ ?_; intro v4 w4 hown4 hg4 hgr4 hb4)
            go_roundw
            case rel =>
              have hgr5 : w1.grownBy w4 u4.ownBlock := grow_of_alloc hgr4
              have hfok : Fld.ok w1 (Ins u4) ⟨num, kd, n, d, .slice A5 d.length c5⟩ := ⟨⟨by show _ ≤ ((num : Nat) : Int); omega, by show ((num : Nat) : Int) ≤ _; omega⟩, ⟨by show _ ≤ ((kd : Nat) : Int); omega, by show ((kd : Nat) : Int) ≤ _; omega⟩, o1, RD1.out⟩
              refine ⟨z, f, acc ++ [⟨num, kd, n, d, .slice A5 d.length c5⟩], by omega, rfl, ?_, ?_, by simp; omega, own_eq hown4 (by simp) (by simp [Fld.cells]), ?_, hg4⟩
              · show _ < _
                have := hf.out
                omega
              · show _ = _
                rw [hu.out, E5.out]
                simp [Fld.fd]
              · exact FldsIn.app1 IN1.out hfok hgr5 (by rw [World.size_alloc]; omega) hb4
            case measure => simp [intOf]; omega
          · have t1 : (e != 0) = true := by simp [he]
            have h := HR.out (.slice none 0 0) []
            rw [hu.out, E3.out he] at h
            have HH := Lib.hid h
            clear h E3 E4 BO he
            go_wp2
            exact HH.out _ (World.ownsRow_nil _ _ _ _) (fun f hf => by simp at hf) rfl (G1.out.al _)
      · have t1 : (e != 0) = true := by simp [he]
        have F1 := Lib.hid (E1 he)
        clear E1 E2 E3 E4 hok hbd hnk he
        go_wp2_with fail
        refine (H.out _ (HB.out.grow hg.out)).mono ?_
        rintro e w' ⟨rfl, rfl⟩
        go_wp2
        have h := HR.out (.slice none 0 0) []
        rw [hu.out, F1.out] at h
        exact h _ (World.ownsRow_nil _ _ _ _) (fun f hf => by simp at hf) rfl hg.out
    · obtain rfl : k = l.length := by omega
      have h := HR.out
      rw [hu.out, getGo_end (Nat.le_refl _)] at h
      go_wp2
      exact h _ _ _ hown hin.out rfl hg.out
end Go.Proofs.YtjalimkajcjapaaDoor
