/-
  TileGets, walked.
-/
import Derived.Test.YtfdjdfobhkmlpaaDoorChecked
import Derived.Test.YtfdjdfobhkmlpaaDoorTBnd
import Derived.Test.YtfdjdfobhkmlpaaDoorTRGet
import Derived.Test.YtfdjdfobhkmlpaaDoorTRSame
namespace Go.Proofs.YtfdjdfobhkmlpaaDoor
open Go.RowKit B

theorem getT_err {b : List UInt8} {e : Int} (h : getT b = .error e) : e ≠ 0 := by
  unfold getT at h
  split at h
  · rename_i h0
    injection h with h
    exact h ▸ h0
  · split at h
    · rename_i e' he
      injection h with h
      refine h ▸ mapE_err (fun f e h => ?_) _ he
      unfold lyE at h
      split at h
      · injection h with h; omega
      · exact getLy_err h
    · split at h
      · cases h
      · injection h with h; omega
theorem lys_nil (w : World) : LysRd w (fun _ => True) (.slice none 0 0) [] := ⟨Rd.nil, by simp⟩
/-- what Get hands back -/
def GetH (b : List UInt8) (w : World) (R : Ending → World → Prop) : Prop :=
  (∀ e, getT b = .error e → ∀ w', Grow w w' → R (.returned (.tuple #[.slice none 0 0, .int .i64 e])) w') ∧
  (∀ (L : List LyR) A n c w', getT b = .ok (L.map LyR.pl) → LysRd w' (fun _ => True) (.slice A n c) L → (∀ x ∈ L, x.ok) → FewB L → Grow w w' → R (.returned (.tuple #[.slice A n c, .int .i64 0])) w')
theorem getH_err {b : List UInt8} {w : World} {R : Ending → World → Prop} {e : Int} (h : getT b = .error e) (H : ∀ w', Grow w w' → R (.returned (.tuple #[.slice none 0 0, .int .i64 e])) w') : GetH b w R :=
  ⟨fun e' he => (by rw [h] at he; injection he with he; exact he ▸ H), fun L A n c w' hl => (by rw [h] at hl; cases hl)⟩
theorem getH_ok {b : List UInt8} {w : World} {R : Ending → World → Prop} {l : List LyP} (h : getT b = .ok l) (H : ∀ (L : List LyR) A n c w', L.map LyR.pl = l → LysRd w' (fun _ => True) (.slice A n c) L → (∀ x ∈ L, x.ok) → FewB L → Grow w w' → R (.returned (.tuple #[.slice A n c, .int .i64 0])) w') : GetH b w R :=
  ⟨fun e' he => (by rw [h] at he; cases he), fun L A n c w' hl => (by rw [h] at hl; injection hl with hl; exact H L A n c w' hl.symm)⟩
theorem tget_h {b : List UInt8} {bv : Value} {S : Nat → Prop} {w : World} (hb : Rd w S 1 bv b.length (U8 b)) (hB : TgB b) (hT : Tabs w) {R : Ending → World → Prop} (h : GetH b w R) : Calls Tryd.prog 17 #[bv] w R :=
  tget_any b bv S w hb hB hT h.1 fun L lv w' hl hr hk hf hg => by
    obtain ⟨A, n, c, rfl⟩ := hr.1.form
    exact h.2 L A n c w' hl (hr.into fun _ _ => trivial) hk hf hg
theorem rtget_h {b : List UInt8} {bv : Value} {S : Nat → Prop} {w : World} (hb : Rd w S 1 bv b.length (U8 b)) (hB : TgB b) (hT : Tabs w) {R : Ending → World → Prop} (h : GetH b w R) : Calls Tryd.prog 19 #[bv] w R :=
  rtget_any b bv S w hb hB hT h.1 fun L lv w' hl hr hk hf hg => by
    obtain ⟨A, n, c, rfl⟩ := hr.1.form
    exact h.2 L A n c w' hl (hr.into fun _ _ => trivial) hk hf hg
theorem pl_ok {L : List LyR} {l : List LyP} (h : L.map LyR.pl = l) (hz : ∀ x ∈ l, LyOkP x) : ∀ x ∈ L, LyOkP x.pl := fun x hx => hz x.pl (h ▸ List.mem_map.2 ⟨x, hx, rfl⟩)

set_option maxRecDepth 100000 in
set_option maxHeartbeats 8000000 in
theorem tileGets_walk (b : List UInt8) (bv : Value) (S : Nat → Prop) (w : World) (hb : Rd w S 1 bv b.length (U8 b)) (hT : Tabs w) {R : Ending → World → Prop}
    (hR : ∀ w', Grow w w' → R (.returned (.bool true)) w') :
    Calls Tryd.prog 5 #[bv] w R := by
  have HR := Lib.hid hR
  have HT := Lib.hid hT
  have LV := Lib.hid fun W (hg : Grow w W) (R : Ending → World → Prop) hR => live10_any W (hT.gr hg) (R := R) hR
  have HB := Lib.hid hb
  obtain ⟨B1, B2, B3, hbv⟩ := hb.form
  subst hbv
  obtain rfl : B2 = b.length := by obtain ⟨_, _, _, e, _⟩ := hb; injection e
  have hlen : b.length ≤ 9223372036854775807 := by obtain ⟨_, _, c, e, h1, h2, _⟩ := hb; injection e; unfold maxLen at h2; omega
  clear hR hT hb
  by_cases hl : 600 < b.length
  · go_enter Tryd.func5, Tryd.ntmps5
    go_wp2_with fail
    go_at_call 7
    refine LV.out _ (Grow.refl w) _ ?_
    intro w9 hg9
    have FIN := Lib.hid (HR.out _ ((Grow.refl w).tr hg9))
    clear hg9 HR LV
    go_wp2
    exact FIN.out
  · have TB := Lib.hid (tgB_small (b := b) (by omega))
    go_enter Tryd.func5, Tryd.ntmps5
    go_wp2_with fail
    go_at_call 17
    cases hE : getT b with
    | error e =>
      have he := getT_err hE
      have HE := Lib.hid hE
      clear hE
      refine tget_h HB.out TB.out HT.out (getH_err HE.out ?_)
      intro w1 hg1
      have G1 := Lib.hid hg1
      clear hg1
      go_wp2_with fail
      go_at_call 19
      refine rtget_h (HB.out.gr2 (by decide) G1.out) TB.out (HT.out.gr G1.out) (getH_err HE.out ?_)
      intro w2 hg2
      have G2 := Lib.hid (G1.out.tr hg2)
      clear hg2
      have t1 : (e != 0) = true := by simp [he]
      go_wp2_with fail
      go_at_call 10
      refine rsameT_any _ _ [] [] _ _ w2 (lys_nil w2) (lys_nil w2) ?_
      intro c w3 hc hg3
      obtain rfl : c = true := hc.2 rfl
      have G3 := Lib.hid (G2.out.tr hg3)
      clear hg3 hc
      go_wp2_with fail
      go_at_call 16
      refine code10_any _ _ ?_
      go_wp2_with fail
      go_at_call 7
      refine LV.out _ (G3.out) _ ?_
      intro w9 hg9
      have FIN := Lib.hid (HR.out _ ((G3.out).tr hg9))
      clear hg9 HR LV
      go_wp2
      exact FIN.out
    | ok l =>
      obtain ⟨z1, z2, z3⟩ := getT_okn (by omega) hE
      have Z1 := Lib.hid z1
      have Z2 := Lib.hid z2
      have HE := Lib.hid hE
      have PP := Lib.hid (getT_put z1 z2)
      have TP := Lib.hid (tgB_put z1 z2 z3)
      clear hE z1 z2
      refine tget_h HB.out TB.out HT.out (getH_ok HE.out ?_)
      intro L1 A1 n1 c1 w1 hL1 hr1 hk1 hf1 hg1
      have G1 := Lib.hid hg1
      have L1E := Lib.hid hL1
      have R1 := Lib.hid hr1
      have K1 := Lib.hid hk1
      clear hg1 hL1 hr1 hk1 hf1
      go_wp2_with fail
      go_at_call 19
      refine rtget_h (HB.out.gr2 (by decide) G1.out) TB.out (HT.out.gr G1.out) (getH_ok HE.out ?_)
      intro L2 A2 n2 c2 w2 hL2 hr2 hk2 hf2 hg2
      have G2 := Lib.hid (G1.out.tr hg2)
      have R1 := Lib.hid (R1.out.gr hg2)
      have L2E := Lib.hid hL2
      have R2 := Lib.hid hr2
      clear hg2 hL2 hr2 hk2 hf2
      go_wp2_with fail
      go_at_call 10
      refine rsameT_any _ _ L1 L2 _ _ w2 R1.out R2.out ?_
      intro c w3 hc hg3
      obtain rfl : c = true := hc.2 (L1E.out.trans L2E.out.symm)
      have G3 := Lib.hid (G2.out.tr hg3)
      have R1 := Lib.hid (R1.out.gr hg3)
      clear hg3 hc R2
      go_wp2_with fail
      go_at_call 16
      refine code10_any _ _ ?_
      go_wp2_with fail
      go_at_call 13
      have n1 : L1.length ≤ 300 := by have := congrArg List.length L1E.out; rw [List.length_map] at this; omega
      refine tput_any _ L1 _ w3 R1.out K1.out (HT.out.gr G3.out) n1 (pl_ok L1E.out Z1.out) (fun h => absurd h (by rw [L1E.out, Z2.out]; simp)) (fun _ => ?_)
      rw [L1E.out]
      intro r w4 hO hg4
      have G4 := Lib.hid (G3.out.tr hg4)
      have R1 := Lib.hid (R1.out.gr hg4)
      have C4 := Lib.hid (Rd.own hO)
      obtain ⟨P1, P2, rfl⟩ := own_slice hO
      clear hg4 hO
      go_wp2_with fail
      go_at_call 17
      refine tget_h C4.out TP.out (HT.out.gr G4.out) (getH_ok PP.out ?_)
      intro L5 A5 n5 c5 w5 hL5 hr5 hk5 hf5 hg5
      have G5 := Lib.hid (G4.out.tr hg5)
      have R1 := Lib.hid (R1.out.gr hg5)
      have C5 := Lib.hid (C4.out.gr2 (by decide) hg5)
      have L5E := Lib.hid hL5
      have R5 := Lib.hid hr5
      have K5 := Lib.hid hk5
      clear hg5 hL5 hr5 hk5 hf5 C4
      go_wp2_with fail
      go_at_call 13
      have n5' : L5.length ≤ 300 := by have := congrArg List.length L5E.out; rw [List.length_map] at this; omega
      refine tput_any _ L5 _ w5 R5.out K5.out (HT.out.gr G5.out) n5' (pl_ok L5E.out Z1.out) (fun h => absurd h (by rw [L5E.out, Z2.out]; simp)) (fun _ => ?_)
      rw [L5E.out]
      intro r6 w6 hO hg6
      have G6 := Lib.hid (G5.out.tr hg6)
      have R1 := Lib.hid (R1.out.gr hg6)
      have R6 := Lib.hid (R5.out.gr hg6)
      have C6 := Lib.hid (C5.out.gr2 (by decide) hg6)
      have D6 := Lib.hid (Rd.own hO)
      obtain ⟨Q1, Q2, rfl⟩ := own_slice hO
      clear hg6 hO C5 R5
      generalize putT l = bytes at *
      go_wp2_with (go_at_call 16; refine code10_any _ _ ?_)
      go_at_call 10
      refine rsameT_any _ _ L5 L1 _ _ w6 R6.out R1.out ?_
      intro c w7 hc hg7
      obtain rfl : c = true := hc.2 (L5E.out.trans L1E.out.symm)
      have G7 := Lib.hid (G6.out.tr hg7)
      have cv1 := str_u8t (C6.out.gr2 (by decide) hg7)
      have cv2 := str_u8t (D6.out.gr2 (by decide) hg7)
      clear hg7 hc
      go_wp2_with fail
      go_at_call 7
      refine LV.out _ (G7.out) _ ?_
      intro w9 hg9
      have FIN := Lib.hid (HR.out _ ((G7.out).tr hg9))
      clear hg9 HR LV
      go_wp2
      exact FIN.out
end Go.Proofs.YtfdjdfobhkmlpaaDoor
