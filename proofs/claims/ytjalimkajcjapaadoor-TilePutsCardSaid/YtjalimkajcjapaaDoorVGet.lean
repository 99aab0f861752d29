/-
  Values of attributes: Get.
-/
import Derived.Test.YtjalimkajcjapaaDoorChecked
import Derived.Test.YtjalimkajcjapaaDoorVOf
import Derived.Test.YtjalimkajcjapaaDoorWireA
namespace Go.Proofs.YtjalimkajcjapaaDoor
open Go.RowKit B

def low7 (f : FD) : Bool := decide (f.num ≤ 7)
def oneS : List FD → Val × Int
  | [f] => ofS f
  | _ => (zeroV, 3)
def getS (l : List UInt8) : Val × Int := if (get l).2 ≠ 0 then (zeroV, (get l).2) else oneS ((get l).1.filter low7)

theorem vput9_ge (v : Nat) : 1 ≤ (vput 9 v).length := (vput_len 9 v).1
theorem fdput_ge {f : FD} (h : f.good) : f.data.length + 2 ≤ (fdput f).length := by
  obtain ⟨num, kind, int, data⟩ := f
  obtain ⟨_, hk⟩ := h
  dsimp only at hk
  have a := vput9_ge (num % 536870912 * 8 + kind % 8).toNat
  have b := vput9_ge int
  have c := vput9_ge data.length
  unfold fdput
  rcases hk with ⟨rfl, _, rfl⟩ | ⟨rfl, _, rfl⟩ | ⟨rfl, _, rfl⟩ | ⟨rfl, rfl, _⟩ <;> simp only [Int.reduceEq, if_false, if_true, List.length_append, le_len, List.length_nil] <;> omega
theorem fdput_all : ∀ l : List FD, (∀ f ∈ l, f.good) → 2 * l.length ≤ (l.flatMap fdput).length ∧ ∀ f ∈ l, f.data.length ≤ (l.flatMap fdput).length
  | [], _ => ⟨by simp, by simp⟩
  | f :: l, h => by
    have h1 := fdput_all l fun g hg => h g (by simp [hg])
    have h2 := fdput_ge (h f (by simp))
    simp only [List.flatMap_cons, List.length_append, List.length_cons]
    refine ⟨by omega, fun g hg => ?_⟩
    rcases List.mem_cons.1 hg with rfl | hg
    · omega
    · have := h1.2 g hg; omega
theorem filter_snoc {α β : Type} (g : α → β) (p : β → Bool) (l : List α) (x : α) : ((l ++ [x]).filter fun a => p (g a)) = (l.filter fun a => p (g a)) ++ (if p (g x) then [x] else []) := by
  rw [List.filter_append]
  congr 1
  by_cases h : p (g x) = true <;> simp [h]

set_option maxRecDepth 100000 in
set_option maxHeartbeats 8000000 in
theorem vget_any (l : List UInt8) (v : Value) (S : Nat → Prop) (w : World) (hb : Rd w S 1 v l.length (U8 l)) (hl : l.length ≤ 100000) (hT : Tabs w) {R : Ending → World → Prop} (hR : ∀ w', Grow w w' → R (.returned (.tuple #[(getS l).1.v, .int .i64 (getS l).2])) w') :
    Calls Tryd.prog 48 #[v] w R := by
  have HR1 : ∀ x e, getS l = (x, e) → ∀ w', Grow w w' → R (.returned (.tuple #[x.v, .int .i64 e])) w' := by intro x e h w' hg; have := hR w' hg; rw [h] at this; exact this
  have HR := Lib.hid HR1
  clear hR HR1
  have hb := hb.lt (by decide)
  have HB := Lib.hid hb
  have HT := Lib.hid hT
  have HL := Lib.hid hl
  have BR := Lib.hid (BoxH.laid #[.int .i64 0, .string ⟨#[]⟩, .int .u64 0] 44 (Grow.refl w))
  obtain ⟨_, A, c, rfl, -, -, -, -⟩ := hb
  clear hT hl
  go_enter Tryd.func48, Tryd.ntmps48
  go_wp2_with fail
  go_at_call 22
  refine get_any l _ _ _ (HB.out.gr (by decide) BR.out.grow) (Nat.le_trans HL.out (by decide)) ?_
  intro r fs w1 hO1 hI1 hfs hg1
  have BR1 := Lib.hid (BR.out.tr hg1)
  have EF := Lib.hid hfs
  have O1 := Lib.hid hO1
  have I1 : Hid (∀ f ∈ fs, f.ok w1 (· < w1.heap.size)) := fun f hf => ⟨(hI1 f hf).1, (hI1 f hf).2.1, (hI1 f hf).2.2.1, (hI1 f hf).2.2.2.lt (by decide)⟩
  have RO := Lib.hid (Rd.own_lt hO1)
  obtain ⟨Xr, cr, hr⟩ := own_slice hO1
  subst hr
  clear hO1 hI1 hfs hg1 BR HB
  obtain ⟨e, he⟩ : ∃ e, (get l).2 = e := ⟨_, rfl⟩
  rw [he]
  by_cases h0 : e = 0
  · have t0 : (e != 0) = false := by rw [bne_eq_false_iff_eq]; exact h0
    have GS : Hid (getS l = oneS ((get l).1.filter low7)) := by show _ = _; unfold getS; rw [if_neg (by omega)]
    rw [← EF.out] at GS
    have hgl : get l = (fs.map Fld.fd, 0) := by rw [EF.out, ← h0, ← he]
    obtain ⟨q1, -, q3⟩ := put_get (by have := HL.out; omega) hgl
    have GD : Hid (∀ f ∈ fs, f.fd.good) := fun f hf => q3 _ (List.mem_map_of_mem hf)
    have LF : Hid (fs.length ≤ 100000) := by
      show _ ≤ _
      have := (fdput_all _ q3).1
      rw [List.length_map] at this
      have := HL.out
      omega
    clear hgl q1 q3
    obtain ⟨_, A2, c2, hv2, h1, h2, h3, h4⟩ := RO.out
    injection hv2 with e1 e2 e3
    subst e1 e3
    unfold maxLen at h2
    clear h0 he h3
    go_wp2
    clear t0
    go_loopw [20, 6] (fun i' s wr => ∃ (k : Nat), k ≤ fs.length ∧ i' = .int .i64 k ∧ Hid (Grow w1 wr) ∧ Hid (wr.ownsRow w1.heap.size 51 4 s ((fs.take k).filter fun f => low7 f.fd).length (((fs.take k).filter fun f => low7 f.fd).flatMap Fld.cells))) (fun i' _ _ => fs.length - (intOf i').toNat)
    case atStart => exact ⟨0, Nat.zero_le _, rfl, Grow.refl _, World.ownsRow_nil _ _ _ _⟩
    case round =>
      obtain ⟨k, hk, rfl, hg, hO⟩ := hrel
      by_cases hlt : k < fs.length
      · obtain ⟨b, o, rfl, hS, hc⟩ := h4 (by omega)
        have e1 := flat_cells Fld.cells_len hg.out hS hc hlt
        have hfo := I1.out fs[k] (List.getElem_mem hlt)
        have FS : Hid (((fs.take (k + 1)).filter fun f => low7 f.fd) = ((fs.take k).filter fun f => low7 f.fd) ++ (if low7 fs[k].fd then [fs[k]] else [])) := by
          show _ = _
          rw [List.take_succ_eq_append_getElem hlt]
          exact filter_snoc Fld.fd low7 _ _
        have KL : Hid (((fs.take k).filter fun f => low7 f.fd).length ≤ 100000) := by
          show _ ≤ _
          have h1 := List.length_filter_le (fun f : Fld => low7 f.fd) (fs.take k)
          rw [List.length_take] at h1
          have := LF.out
          omega
        clear h4 hc
        generalize ((fs.take k).filter fun f => low7 f.fd) = known at *
        generalize fs[k] = f at *
        obtain ⟨num, kind, int, data, dv⟩ := f
        obtain ⟨hn1, hn2, hn3, hd⟩ := hfo
        dsimp only at hn1 hn2 hn3 hd
        obtain ⟨_, D, cd, rfl, -, -, -, -⟩ := hd
        have d0 := e1 0 _ rfl
        have d1 := e1 1 _ rfl
        have d2 := e1 2 _ rfl
        have d3 := e1 3 _ rfl
        simp only [Nat.add_zero] at d0
        clear e1 hn1 hn2 hn3
        by_cases hlow : num ≤ 7
        · have t1 : decide (num ≤ 7) = true := decide_eq_true hlow
          have FS2 : Hid (((fs.take (k + 1)).filter fun f => low7 f.fd) = known ++ [⟨num, kind, int, data, .slice D data.length cd⟩]) := by
            have := FS.out
            rw [if_pos (by show decide (num ≤ 7) = true; exact t1)] at this
            exact this
          have G2 := Lib.hid (hg.out.al (.cells #[.int .i64 num, .int .i64 kind, .int .u64 (int : Nat), .slice D data.length cd] 51))
          have O2 := Lib.hid (hO.out.alloc (.cells #[.int .i64 num, .int .i64 kind, .int .u64 (int : Nat), .slice D data.length cd] 51))
          clear hlow hO FS
          go_wp2_with (at_builtin; refine wpList_newAt (w0 := w1) rfl _ _ rfl el_fld O2.out rfl 1 _ (World.size_alloc _ _) _ rfl (by decide) rfl (by simp [Value.oneCell']) (by have := KL.out; omega) G2.out ⟨Nat.le_refl _, G2.out.size⟩ ?_; intro v4 w4 hown4 hg4 hgr4 hb4; have O4 := Lib.hid hown4; have G4 := Lib.hid hg4; clear hown4 hg4 hgr4 hb4)
          go_roundw
          case rel => exact ⟨k + 1, by omega, by go_num, G4.out, by rw [FS2.out]; exact own_eq O4.out (by simp) (by simp [Fld.cells])⟩
          case measure => simp [intOf]; omega
        · have t1 : decide (num ≤ 7) = false := decide_eq_false hlow
          have FS2 : Hid (((fs.take (k + 1)).filter fun f => low7 f.fd) = known) := by
            have := FS.out
            rw [if_neg (by show ¬ decide (num ≤ 7) = true; rw [t1]; decide), List.append_nil] at this
            exact this
          have G2 := Lib.hid (hg.out.al (.cells #[.int .i64 num, .int .i64 kind, .int .u64 (int : Nat), .slice D data.length cd] 51))
          have O2 := Lib.hid (hO.out.alloc (.cells #[.int .i64 num, .int .i64 kind, .int .u64 (int : Nat), .slice D data.length cd] 51))
          clear hlow hO FS
          go_wp2
          go_roundw
          case rel => exact ⟨k + 1, by omega, by go_num, G2.out, by rw [FS2.out]; exact O2.out⟩
          case measure => simp [intOf]; omega
      · obtain rfl : k = fs.length := by omega
        rw [List.take_length] at hO
        have GF : Hid (getS l = oneS ((fs.filter fun f => low7 f.fd).map Fld.fd)) := by
          show _ = _
          rw [GS.out, List.filter_map]; rfl
        have KO : Hid (∀ f ∈ fs.filter fun f => low7 f.fd, f.ok wr (· < w1.heap.size)) := fun f hf => by
          have h := I1.out f (List.mem_filter.1 hf).1
          exact ⟨h.1, h.2.1, h.2.2.1, h.2.2.2.gr2 (by decide) hg.out⟩
        have KL : Hid ((fs.filter fun f => low7 f.fd).length ≤ 100000) := by
          show _ ≤ _
          have h1 := List.length_filter_le (fun f : Fld => low7 f.fd) fs
          have := LF.out
          omega
        have BR2 := Lib.hid (BR1.out.tr hg.out)
        clear h4
        generalize (fs.filter fun f => low7 f.fd) = known at *
        obtain ⟨X6, c6, hv6⟩ := own_slice hO.out
        subst hv6
        have hkl := KL.out
        by_cases h1k : known.length = 1
        · obtain ⟨f, rfl⟩ := List.length_eq_one_iff.1 h1k
          have hfo := KO.out f (List.mem_singleton.2 rfl)
          obtain ⟨_, A6, c6', hv, z1, z2, -, z4⟩ := Rd.own hO.out
          injection hv with e1 e2 e3
          subst e1 e3
          obtain ⟨b6, o6, rfl, -, z5⟩ := z4 (by simp)
          obtain ⟨x, ex, hx⟩ : ∃ x ex, ofS f.fd = (x, ex) := ⟨_, _, rfl⟩
          have OF := Lib.hid fun W (hg : Grow wr W) (R : Ending → World → Prop) => of_any f _ W ⟨hfo.1, hfo.2.1, hfo.2.2.1, hfo.2.2.2.gr2 (by decide) hg⟩ (HT.out.gr (BR2.out.grow.tr hg)) (R := R)
          rw [hx] at OF
          have GE : Hid (getS l = (x, ex)) := by show _ = _; rw [GF.out]; exact hx
          have d0 := z5 0 (.int .i64 f.num) rfl
          have d1 := z5 1 (.int .i64 f.kind) rfl
          have d2 := z5 2 (.int .u64 (f.int : Nat)) rfl
          have d3 := z5 3 f.dv rfl
          simp only [Nat.add_zero] at d0
          clear z5 z4 hx hfo h1k
          go_wp2_with fail
          go_at_call 67
          refine OF.out _ (Grow.refl _) _ ?_
          intro w5 hg5
          have BR5 := Lib.hid (BR2.out.tr hg5)
          clear hg5
          obtain ⟨xk, xt, xb⟩ := x
          unfold Val.v
          dsimp only
          have y0 := BR5.out.cell 0
          have y1 := BR5.out.cell 1
          have y2 := BR5.out.cell 2
          have f0 := BR5.out.free 0
          have f1 := (BR5.out.set 0 (.int .i64 xk)).free 1
          have f2 := ((BR5.out.set 0 (.int .i64 xk)).set 1 (.string xt)).free 2
          have BR9 := Lib.hid (((BR5.out.set 0 (.int .i64 xk)).set 1 (.string xt)).set 2 (.int .u64 xb))
          go_wp2
          exact bodyPost_ret (res_get (b := w.heap.size) rfl rfl BR9.out.2.2) rfl (HR.out ⟨xk, xt, xb⟩ ex GE.out _ BR9.out.grow)
        · have t1 : ((known.length : Int) != 1) = true := by rw [bne_iff_ne]; omega
          have GE : Hid (getS l = (zeroV, 3)) := by
            show _ = _
            rw [GF.out]
            cases known with
            | nil => rfl
            | cons f ks =>
              cases ks with
              | nil => exact absurd rfl h1k
              | cons g ks => rfl
          clear h1k
          have y0 := BR2.out.cell 0
          have y1 := BR2.out.cell 1
          have y2 := BR2.out.cell 2
          have f0 := BR2.out.free 0
          have f1 := (BR2.out.set 0 (.int .i64 0)).free 1
          have f2 := ((BR2.out.set 0 (.int .i64 0)).set 1 (.string ⟨#[]⟩)).free 2
          have BR9 := Lib.hid (((BR2.out.set 0 (.int .i64 0)).set 1 (.string ⟨#[]⟩)).set 2 (.int .u64 0))
          go_wp2
          exact bodyPost_ret (res_get (b := w.heap.size) rfl rfl BR9.out.2.2) rfl (HR.out zeroV 3 GE.out _ BR9.out.grow)
  · have t0 : (e != 0) = true := by rw [bne_iff_ne]; exact h0
    have GS : Hid (getS l = (zeroV, e)) := by show _ = _; unfold getS; rw [if_pos (by omega), he]
    clear h0 he
    have y0 := BR1.out.cell 0
    have y1 := BR1.out.cell 1
    have y2 := BR1.out.cell 2
    have f0 := BR1.out.free 0
    have f1 := (BR1.out.set 0 (.int .i64 0)).free 1
    have f2 := ((BR1.out.set 0 (.int .i64 0)).set 1 (.string ⟨#[]⟩)).free 2
    have BR9 := Lib.hid (((BR1.out.set 0 (.int .i64 0)).set 1 (.string ⟨#[]⟩)).set 2 (.int .u64 0))
    go_wp2
    exact bodyPost_ret (res_get (b := w.heap.size) rfl rfl BR9.out.2.2) rfl (HR.out zeroV e GS.out _ BR9.out.grow)
end Go.Proofs.YtjalimkajcjapaaDoor
