/-
  Values of attributes: the reference's less and Order.
-/
import Derived.Test.YtehffeglgdcogaaDoorChecked
import Derived.Test.YtehffeglgdcogaaDoorOrd
namespace Go.Proofs.YtehffeglgdcogaaDoor
open Go.RowKit B

theorem cmpB_drop {a b : List UInt8} {i : Nat} (h : a.take i = b.take i) (ha : i ≤ a.length) (hb : i ≤ b.length) : Lib.compareBytes a b = Lib.compareBytes (a.drop i) (b.drop i) := by
  induction i generalizing a b with
  | zero => rfl
  | succ i ih =>
    cases a with
    | nil => simp at ha
    | cons x a =>
      cases b with
      | nil => simp at hb
      | cons y b =>
        simp only [List.take_succ_cons, List.cons.injEq] at h
        obtain ⟨rfl, h⟩ := h
        simp only [List.drop_succ_cons]
        rw [← ih h (by simpa using ha) (by simpa using hb)]
        simp [Lib.compareBytes]
theorem ba_at (s : ByteArray) (i : Nat) (h : i < s.size) : s.data.toList[i]'(by simpa using h) = s[i] := by simp; rfl

theorem drop_nil (l : List UInt8) {i : Nat} (h : l.length ≤ i) : l.drop i = [] := List.drop_eq_nil_of_le h
set_option maxRecDepth 100000 in
set_option maxHeartbeats 2000000 in
theorem less_any (s t : ByteArray) (hs : s.size ≤ 9223372036854775807) (ht : t.size ≤ 9223372036854775807) (w : World) {R : Ending → World → Prop} (hR : ∀ w', Grow w w' → R (.returned (.bool (decide (Lib.compareBytes s.data.toList t.data.toList = -1)))) w') :
    Calls Tryd.prog 26 #[.string s, .string t] w R := by
  have HR := Lib.hid hR
  clear hR
  have es : s.data.toList.length = s.size := by simp
  have et : t.data.toList.length = t.size := by simp
  have ES := Lib.hid es
  have ET := Lib.hid et
  clear es et
  go_enter Tryd.func26, Tryd.ntmps26
  go_wp2
  go_loopw [5] (fun i' wr => ∃ (i : Nat), i ≤ s.size ∧ i ≤ t.size ∧ i' = .int .i64 i ∧ Hid (s.data.toList.take i = t.data.toList.take i) ∧ Hid (Grow w wr)) (fun i' _ => s.size - (intOf i').toNat)
  case atStart => exact ⟨0, Nat.zero_le _, Nat.zero_le _, rfl, rfl, Grow.refl _⟩
  case round =>
    obtain ⟨i, hi, hj, rfl, htk, hg⟩ := hrel
    by_cases h1 : i < s.size
    · by_cases h2 : i < t.size
      · have hla : s.data.toList.drop i = s[i] :: s.data.toList.drop (i + 1) := by
          rw [List.drop_eq_getElem_cons (by rw [ES.out]; exact h1), ba_at s i h1]
        have hlb : t.data.toList.drop i = t[i] :: t.data.toList.drop (i + 1) := by
          rw [List.drop_eq_getElem_cons (by rw [ET.out]; exact h2), ba_at t i h2]
        have hta : s.data.toList.take (i + 1) = s.data.toList.take i ++ [s[i]] := by
          rw [List.take_succ_eq_append_getElem (by rw [ES.out]; exact h1), ba_at s i h1]
        have htb : t.data.toList.take (i + 1) = t.data.toList.take i ++ [t[i]] := by
          rw [List.take_succ_eq_append_getElem (by rw [ET.out]; exact h2), ba_at t i h2]
        have hcb : Lib.compareBytes s.data.toList t.data.toList = Lib.compareBytes (s.data.toList.drop i) (t.data.toList.drop i) := cmpB_drop htk.out (by rw [ES.out]; exact hi) (by rw [ET.out]; exact hj)
        rw [hla, hlb] at hcb
        have HCB := Lib.hid hcb
        have HTA := Lib.hid hta
        have HTB := Lib.hid htb
        clear hcb hta htb hla hlb
        go_wp2_with fail
        go_quiet (fail)
        by_cases hxy : s[i] = t[i]
        · have t1 : (((s[i].toNat : Nat) : Int) != ((t[i].toNat : Nat) : Int)) = false := by rw [hxy]; simp
          have HXY := Lib.hid hxy
          clear hxy
          go_wp2
          go_roundw
          case rel => exact ⟨i + 1, by omega, by omega, by go_num, (by show _ = _; rw [HTA.out, HTB.out, htk.out, HXY.out]), hg.out.tr ((Grow.refl _).dn _)⟩
          case measure => simp [intOf]; omega
        · have hne : s[i].toNat ≠ t[i].toNat := fun e => hxy (UInt8.toNat_inj.1 e)
          have t1 : (((s[i].toNat : Nat) : Int) != ((t[i].toNat : Nat) : Int)) = true := by rw [bne_iff_ne]; omega
          have HRES : Hid (Lib.compareBytes s.data.toList t.data.toList = -1 ↔ s[i].toNat < t[i].toNat) := by
            show _ ↔ _
            rw [HCB.out]
            show (if s[i] < t[i] then (-1 : Int) else if t[i] < s[i] then 1 else _) = -1 ↔ _
            by_cases hlt : s[i].toNat < t[i].toNat
            · rw [if_pos (UInt8.lt_iff_toNat_lt.2 hlt)]; simp [hlt]
            · rw [if_neg (fun h => hlt (UInt8.lt_iff_toNat_lt.1 h)), if_pos (UInt8.lt_iff_toNat_lt.2 (by omega))]; simp [hlt]
          clear hxy hne
          go_wp2_with fail
          go_quiet (fail)
          go_wp2
          exact at_ (HR.out _ ((hg.out.tr ((Grow.refl _).dn _)).tr ((Grow.refl _).dn _))) (retb (decide_eq_decide.2 (by rw [HRES.out]; first | done | omega)))
      · have HRES : Hid (Lib.compareBytes s.data.toList t.data.toList ≠ -1) := by
          show _ ≠ _
          rw [cmpB_drop htk.out (by rw [ES.out]; exact hi) (by rw [ET.out]; exact hj), drop_nil t.data.toList (by rw [ET.out]; omega), List.drop_eq_getElem_cons (by rw [ES.out]; exact h1)]
          simp [Lib.compareBytes]
        have hl : ¬ s.size < t.size := by omega
        go_wp2
        refine at_ (HR.out _ hg.out) (retb ?_)
        rw [decide_eq_false HRES.out]
        first | done | simp [hl]
    · have HRES : Hid (Lib.compareBytes s.data.toList t.data.toList = -1 ↔ s.size < t.size) := by
        show _ ↔ _
        rw [cmpB_drop htk.out (by rw [ES.out]; exact hi) (by rw [ET.out]; exact hj), drop_nil s.data.toList (by rw [ES.out]; omega)]
        by_cases h2 : i < t.size
        · rw [List.drop_eq_getElem_cons (l := t.data.toList) (by rw [ET.out]; exact h2)]
          have : s.size < t.size := by omega
          simp [Lib.compareBytes, this]
        · rw [List.drop_eq_nil_of_le (by rw [ET.out]; omega)]
          have : ¬ s.size < t.size := by omega
          simp [Lib.compareBytes, this]
      go_wp2
      exact at_ (HR.out _ hg.out) (retb (decide_eq_decide.2 (by rw [HRES.out]; first | done | omega)))
end Go.Proofs.YtehffeglgdcogaaDoor
