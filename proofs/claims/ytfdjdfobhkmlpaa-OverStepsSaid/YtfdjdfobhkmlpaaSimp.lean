import Derived.Test.YtfdjdfobhkmlpaaChecked
import Derived.Test.YtfdjdfobhkmlpaaCore
import Derived.Test.YtfdjdfobhkmlpaaPts
import Derived.Test.YtfdjdfobhkmlpaaNorm
import Derived.Test.YtfdjdfobhkmlpaaComp
import Derived.Lib.SliceRun
namespace Go.Proofs.Ytfdjdfobhkmlpaa
open Go.RowKit Go.Lib

set_option maxRecDepth 100000 in
set_option maxHeartbeats 1000000 in
theorem clonePts_any (l : List Pt) (v : Value) (S : Nat → Prop) (w : World) (hb : Rd w S 2 v l.length (Pts l)) (hl : l.length ≤ 1000000) {R : Ending → World → Prop}
    (hR : ∀ r w', w'.ownsRow w.heap.size 36 2 r l.length (Pts l) → Grow w w' → R (.returned r) w') :
    Calls Try.prog 35 #[v] w R := by
  have HB := Lib.hid hb
  have hR := Lib.hid hR
  obtain ⟨_, A, c, rfl, h1, h2, h3, h4⟩ := hb
  rcases A with _ | a
  · have hne := fun w => Lib.run_eql_slice_nil (P := Try.prog) w 33 36 none 0 0 0 0 el_pt.ht
    obtain rfl : c = 0 := h3 rfl
    obtain rfl : l = [] := List.eq_nil_of_length_eq_zero (by omega)
    clear h4 h2 h3
    go_enter Try.func35, Try.ntmps35
    go_wp2
    exact hR.out _ _ (World.ownsRow_nil _ _ _ _) (Grow.refl _)
  · have hne := fun w => Lib.run_eql_slice_nil (P := Try.prog) w 33 36 (some a) l.length c 0 0 el_pt.ht
    clear h3 h4 h2
    have hrow := Lib.hid (World.ownsRow_lit (base := w.heap.size) (e := 36) (size := 2) w #[] 0 (Nat.le_refl _) (by decide) rfl)
    go_enter Try.func35, Try.ntmps35
    go_wp2_with (at_builtin; refine wpList_app rfl _ _ rfl el_pt hrow.out rfl (HB.out.al (by decide) _) rfl (Pts_one _) (by omega) (by simp) ?_; intro v1 w1 hown1 hgr1 hb1)
    exact hR.out _ _ (own_eq hown1 (by simp) (by simp)) (grow_app ((Grow.refl w).al _) hgr1 (own_ge hrow.out))

theorem Pts_take (l : List Pt) (k : Nat) : (Pts l).take (k * 2) = Pts (l.take k) := by
  by_cases h : k ≤ l.length
  · conv => lhs; rw [← List.take_append_drop k l, Pts_app]
    rw [List.take_left' (by rw [Pts_len, List.length_take]; omega)]
  · rw [List.take_of_length_le (by rw [Pts_len]; omega), List.take_of_length_le (by omega)]

def trimLen (xs : List Pt) : Nat → Nat
  | 0 => 0
  | m + 1 => if 1 ≤ m ∧ xs[m]? = xs[0]? then trimLen xs m else m + 1
theorem trimLen_le (xs : List Pt) : ∀ m, trimLen xs m ≤ m
  | 0 => Nat.le_refl _
  | m + 1 => by
    have := trimLen_le xs m
    unfold trimLen
    split <;> omega
def simple (xs : List Pt) (closed : Bool) : List Pt := if closed then (compact xs).take (trimLen (compact xs) (compact xs).length) else compact xs

set_option maxRecDepth 100000 in
set_option maxHeartbeats 2000000 in
theorem simple_any (l : List Pt) (closed : Bool) (v : Value) (S : Nat → Prop) (w : World) (hb : Rd w S 2 v l.length (Pts l)) (hl : l.length ≤ 1000000) {R : Ending → World → Prop}
    (hR : ∀ r w', w'.ownsRow w.heap.size 36 2 r (simple l closed).length (Pts (simple l closed)) → Grow w w' → R (.returned r) w') :
    Calls Try.prog 54 #[v, .bool closed] w R := by
  have HR := Lib.hid hR
  clear hR
  have HB := Lib.hid hb
  clear hb
  have hsd : simple l closed = if closed then (compact l).take (trimLen (compact l) (compact l).length) else compact l := rfl
  have HS := Lib.hid hsd
  clear hsd
  go_enter Try.func54, Try.ntmps54
  go_wp2_with fail
  refine clonePts_any l v S w HB.out hl ?_
  intro r1 w1 hown1 hg1
  have HG1 := Lib.hid hg1
  have HO1 := Lib.hid hown1
  clear hg1 hown1
  go_wp2_with fail
  refine compact_any l r1 _ w w1 HO1.out HG1.out (Nat.le_refl _) ?_
  intro r2 w2 hown2 hg2
  have HG2 := Lib.hid hg2
  clear HG1 HO1 hg2
  generalize compact l = C at *
  go_wp2
  go_loopw [5] (fun s5 wr => ∃ (m c : Nat) (A : Option Addr), s5 = .slice A m c ∧ m ≤ C.length ∧ wr.ownsRow w.heap.size 36 2 (.slice A m c) m (Pts (C.take m)) ∧ Hid (closed = true → trimLen C C.length = trimLen C m) ∧ Hid (closed = false → m = C.length) ∧ Hid (Grow w wr)) (fun s5 _ => match s5 with | .slice _ n _ => n | _ => 0)
  case atStart =>
    obtain ⟨_, A, c, h, _⟩ := Rd.own hown2
    subst h
    exact ⟨C.length, c, A, rfl, Nat.le_refl _, by rw [List.take_length]; exact hown2, fun _ => rfl, fun _ => rfl, HG2.out⟩
  case round =>
    obtain ⟨m, c, A, rfl, hm, hO, hT, hF, hG⟩ := hrel
    have hcap : m ≤ c ∧ c ≤ 9223372036854775807 := by
      obtain ⟨_, A', c', h, h1, h3, _⟩ := Rd.own hO
      injection h with _ _ h
      subst h
      exact ⟨h1, h3⟩
    obtain ⟨hcap1, hcap2⟩ := hcap
    have done : Hid (∀ n, (closed = true → trimLen C m = m) → R (.returned (.slice A m c)) (World.drewN wr n)) := by
      intro n hd
      refine HR.out _ _ ?_ (hG.out.dn _)
      have e : simple l closed = C.take m := by
        rw [HS.out]
        cases closed with
        | true => rw [if_pos rfl, hT.out rfl, hd rfl]
        | false => rw [if_neg (by simp), hF.out rfl, List.take_length]
      rw [e]
      exact own_eq (own_grow hO ((Grow.refl _).dn _)) (by rw [List.length_take]; omega) rfl
    cases closed with
    | false =>
      go_wp2
      go_quiet (fail)
      go_wp2
      exact done.out _ (by simp)
    | true =>
      by_cases hm1 : 1 < m
      · obtain ⟨g, rfl⟩ : ∃ g, A = some ⟨g, 0, none⟩ := by
          rcases hO.2 with ⟨h, h0⟩ | ⟨g, cap, cur, h, _⟩
          · omega
          · injection h with h
            exact ⟨g, h⟩
        have t1 : decide (1 < (m : Int)) = true := by simp; omega
        have e1 := own_pt hO (j := m - 1) (by rw [List.length_take]; omega)
        have e2 := own_pt hO (j := 0) (by rw [List.length_take]; omega)
        have B : Hid (C[m - 1]? = some ((C.take m)[m - 1]'(by rw [List.length_take]; omega)) ∧ C[0]? = some ((C.take m)[0]'(by rw [List.length_take]; omega))) := by
          refine ⟨?_, ?_⟩ <;> (rw [List.getElem_take]; exact List.getElem?_eq_getElem (by omega))
        have HO := Lib.hid hO
        clear hO
        generalize (C.take m)[m - 1]'(by rw [List.length_take]; omega) = x at *
        generalize (C.take m)[0]'(by rw [List.length_take]; omega) = y at *
        obtain ⟨x1, x2⟩ := x
        obtain ⟨y1, y2⟩ := y
        have c1 := e1 0 _ rfl
        have c2 := e1 1 _ rfl
        have d1 := e2 0 _ rfl
        have d2 := e2 1 _ rfl
        simp only [Nat.add_zero, Nat.zero_mul, Nat.zero_add] at c1 d1 d2
        clear e1 e2
        have hsub : ((m : Int) - 1) = ((m - 1 : Nat) : Int) := by omega
        have hm2 : m - 1 < m := by omega
        have hm3 : 0 < m := by omega
        have split : (x1 = y1 ∧ x2 = y2) ∨ ((x1 == y1) = false ∨ (x1 = y1 ∧ (x2 == y2) = false)) := by
          by_cases a : x1 = y1 <;> by_cases b : x2 = y2 <;> simp [a, b]
        rcases split with ⟨rfl, rfl⟩ | hdiff
        · have hstep : Hid (trimLen C m = trimLen C (m - 1)) := by
            obtain ⟨k, rfl⟩ : ∃ k, m = k + 1 := ⟨m - 1, by omega⟩
            show trimLen C (k + 1) = _
            rw [trimLen, if_pos ⟨by omega, by simpa using B.out.1.trans B.out.2.symm⟩]
            rfl
          clear B
          go_wp2
          go_quiet (fail)
          go_wp2
          go_roundw
          case rel => exact ⟨m - 1, c, _, by go_num, by omega, own_eq (own_cut (own_grow HO.out ((Grow.refl _).dn _)) (by omega) (by omega)) rfl (by rw [Pts_take, List.take_take, Nat.min_eq_left (by omega)]), fun _ => (by simpa using hT.out : trimLen C C.length = trimLen C m).trans hstep.out, fun h => by simp at h, hG.out.dn _⟩
          case measure => simp; omega
        · have hstop : Hid (trimLen C m = m) := by
            obtain ⟨k, rfl⟩ : ∃ k, m = k + 1 := ⟨m - 1, by omega⟩
            show trimLen C (k + 1) = k + 1
            rw [trimLen, if_neg]
            rintro ⟨_, h⟩
            have h := B.out.1.symm.trans ((by simpa using h : C[k + 1 - 1]? = C[0]?).trans B.out.2)
            injection h with h
            injection h with h1 h2
            subst h1 h2
            simp at hdiff
          clear B
          rcases hdiff with t2 | ⟨rfl, t2⟩
          all_goals
            go_wp2
            go_quiet (fail)
            go_wp2
            exact done.out _ (fun _ => hstop.out)
      · have t1 : decide (1 < (m : Int)) = false := by simp; omega
        have hstop : Hid (trimLen C m = m) := by
          match m, hm1 with
          | 0, _ => rfl
          | 1, _ => show trimLen C 1 = 1; simp [trimLen]
          | m + 2, h => omega
        go_wp2
        go_quiet (fail)
        go_wp2
        exact done.out _ (fun _ => hstop.out)
