import Derived.Test.YtehffeglgdcogaaChecked
import Derived.Test.YtehffeglgdcogaaWireL
import Derived.Test.YtehffeglgdcogaaLawPack
import Derived.Test.YtehffeglgdcogaaSame
import Derived.Test.YtehffeglgdcogaaWGet
import Derived.Test.YtehffeglgdcogaaRGet
import Derived.Test.YtehffeglgdcogaaWGetL
namespace Go.Proofs.Ytehffeglgdcogaa
open Go.RowKit

theorem fput_fd (f : Fld) : fput f = fdput f.fd := rfl
theorem fput_fds (fs : List Fld) : fs.flatMap fput = (fs.map Fld.fd).flatMap fdput := by rw [List.flatMap_map]; rfl
theorem eqBy_fd : ∀ (fs gs : List Fld), fs.map Fld.fd = gs.map Fld.fd → eqBy fsame fs gs = true
  | [], [], _ => rfl
  | [], g :: gs, h => by simp at h
  | f :: fs, [], h => by simp at h
  | f :: fs, g :: gs, h => by
    simp only [List.map_cons, List.cons.injEq] at h
    simp only [eqBy, eqBy_fd fs gs h.2, Bool.and_true]
    obtain ⟨n, k, i, d, v⟩ := f
    obtain ⟨n', k', i', d', v'⟩ := g
    simp only [Fld.fd, FD.mk.injEq] at h
    obtain ⟨⟨rfl, rfl, rfl, rfl⟩, -⟩ := h
    simp [fsame]
theorem Flds.of {w : World} {base e : TypeId} {r : Value} {fs : List Fld} (h : w.ownsRow base e 4 r fs.length (fs.flatMap Fld.cells)) (hi : FldsIn w r fs) : Flds w (fun _ => True) r fs :=
  ⟨(Rd.own h).into fun _ _ => trivial, fun f hf => ⟨(hi f hf).1, (hi f hf).2.1, (hi f hf).2.2.1, (hi f hf).2.2.2.into fun _ _ => trivial⟩⟩
theorem Flds.gr {w w' : World} {S : Nat → Prop} {v : Value} {l : List Fld} (h : Flds w S v l) (hg : Grow w w') : Flds w' S v l := ⟨h.1.gr2 (by decide) hg, fun f hf => ⟨(h.2 f hf).1, (h.2 f hf).2.1, (h.2 f hf).2.2.1, (h.2 f hf).2.2.2.gr2 (by decide) hg⟩⟩
theorem vput9_ge (v : Nat) : 1 ≤ (vput 9 v).length := (vput_len 9 v).1
theorem fdput_ge {f : FD} (h : f.good) : f.data.length + 2 ≤ (fdput f).length := by
  obtain ⟨num, kind, int, data⟩ := f
  obtain ⟨_, hk⟩ := h
  dsimp only at hk
  have a := vput9_ge (num % 536870912 * 8 + kind % 8).toNat
  have b := vput9_ge int
  have c := vput9_ge data.length
  unfold fdput
  rcases hk with ⟨rfl, _, rfl⟩ | ⟨rfl, _, rfl⟩ | ⟨rfl, _, rfl⟩ | ⟨rfl, rfl, _⟩ <;> simp only [Int.reduceEq, if_false, if_true, List.length_append, le_len, List.length_nil] <;> omega
theorem fdput_all : ∀ l : List FD, (∀ f ∈ l, f.good) → 2 * l.length ≤ (l.flatMap fdput).length ∧ ∀ f ∈ l, f.data.length ≤ (l.flatMap fdput).length
  | [], _ => ⟨by simp, by simp⟩
  | f :: l, h => by
    have h1 := fdput_all l fun g hg => h g (by simp [hg])
    have h2 := fdput_ge (h f (by simp))
    simp only [List.flatMap_cons, List.length_append, List.length_cons]
    refine ⟨by omega, fun g hg => ?_⟩
    rcases List.mem_cons.1 hg with rfl | hg
    · omega
    · have := h1.2 g hg; omega

set_option maxRecDepth 100000 in
set_option maxHeartbeats 4000000 in
theorem wireGets_walk (b : List UInt8) (v : Value) (S : Nat → Prop) (w : World) (hb : Rd w S 1 v b.length (U8 b))
    {R : Ending → World → Prop} (hR : ∀ w', Grow w w' → R (.returned (.bool true)) w') :
    Calls Try.prog 9 #[v] w R := by
  have HR := Lib.hid hR
  clear hR
  have HB := Lib.hid hb
  obtain ⟨_, A, c, rfl, h1, h2, _, _⟩ := hb
  unfold maxLen at h2
  by_cases hl : b.length ≤ 500
  · have t1 : decide (500 < (b.length : Int)) = false := by simp; omega
    have H1 := fun (R : Ending → World → Prop) hR => get_any b _ S w HB.out (by omega) (R := R) hR
    have H2 := fun W (h : Grow w W) (R : Ending → World → Prop) hR => rget_any b _ S W (HB.out.gr2 (by decide) h) (by omega) (R := R) hR
    have PG := fun {l} => @put_get b (by omega) l
    generalize get b = X at *
    obtain ⟨l, e⟩ := X
    have H1 := Lib.hid H1
    have H2 := Lib.hid H2
    have PG := Lib.hid fun he : e = 0 => PG (show (l, e) = (l, 0) by rw [he])
    go_enter Try.func9, Try.ntmps9
    go_wp2_with fail
    go_at_call 42
    refine H1.out _ ?_
    intro r1 f1 w1 hown1 hi1 he1 hg1
    try dsimp only at he1
    have HF1 := Lib.hid (Flds.of hown1 hi1)
    have HE1 := Lib.hid he1
    have G1 := Lib.hid hg1
    clear hown1 hi1 he1 hg1 H1
    go_wp2_with fail
    go_at_call 43
    refine H2.out _ G1.out _ ?_
    intro r2 f2 w2 hown2 hi2 he2 hg2
    try dsimp only at he2
    have HF2 := Lib.hid (Flds.of hown2 hi2)
    have HE2 := Lib.hid he2
    have G2 := Lib.hid (G1.out.tr hg2)
    have HF1 := Lib.hid (HF1.out.gr hg2)
    clear hown2 hi2 he2 hg2 H2
    go_wp2_with fail
    go_at_call 25
    refine rsame_any f1 f2 _ _ _ _ w2 HF1.out HF2.out ?_
    rw [eqBy_fd _ _ (HE1.out.trans HE2.out.symm)]
    intro w3 hg3
    have G3 := Lib.hid (G2.out.tr hg3)
    have HF1 := Lib.hid (HF1.out.gr hg3)
    clear hg3 HF2
    go_wp2_with fail
    go_at_call 16
    refine code7_any _ _ ?_
    by_cases he : e = 0
    · subst he
      obtain ⟨q1, q2, q3⟩ := PG.out rfl
      obtain ⟨q4, q5⟩ := fdput_all l q3
      have hlen : f1.length = l.length := by rw [← HE1.out, List.length_map]
      have hd : ∀ f ∈ f1, f.data.length ≤ 2000 := by
        intro f hf
        have : f.fd ∈ l := by rw [← HE1.out]; exact List.mem_map_of_mem hf
        have := q5 _ this
        simp only [Fld.fd] at this
        omega
      have H3 := fun W (h : Grow w3 W) (R : Ending → World → Prop) hR => put_any f1 r1 _ W (HF1.out.gr h) (by omega) hd (R := R) hR
      rw [fput_fds, HE1.out] at H3
      have H4 := fun v S W (h : Rd W S 1 v (l.flatMap fdput).length (U8 (l.flatMap fdput))) (R : Ending → World → Prop) hR => get_any (l.flatMap fdput) v S W h (by omega) (R := R) hR
      rw [q2] at H4
      have H3 := Lib.hid H3
      have H4 := Lib.hid H4
      clear q2 q3 q4 q5 hd PG hlen
      generalize l.flatMap fdput = P at *
      have t2 : decide (P.length ≤ b.length) = true := decide_eq_true q1
      clear q1
      go_wp2_with fail
      go_at_call 22
      refine H3.out _ (Grow.refl _) _ ?_
      intro r4 w4 hown4 hg4
      obtain ⟨A4, c4, rfl⟩ := own_slice hown4
      have HO4 := Lib.hid (Rd.own_lt hown4)
      have G4 := Lib.hid (G3.out.tr hg4)
      have HF1 := Lib.hid (HF1.out.gr hg4)
      clear hown4 hg4 H3
      go_wp2_with fail
      go_at_call 42
      refine H4.out _ _ _ HO4.out _ ?_
      intro r5 f5 w5 hown5 hi5 he5 hg5
      try dsimp only at he5
      have HF5 := Lib.hid (Flds.of hown5 hi5)
      have HE5 := Lib.hid he5
      have G5 := Lib.hid (G4.out.tr hg5)
      have HF1 := Lib.hid (HF1.out.gr hg5)
      clear hown5 hi5 he5 hg5 H4
      go_wp2_with fail
      go_at_call 16
      refine code7_any _ _ ?_
      go_wp2_with fail
      go_at_call 25
      refine rsame_any f5 f1 _ _ _ _ w5 HF5.out HF1.out ?_
      rw [eqBy_fd _ _ (HE5.out.trans HE1.out.symm)]
      intro w6 hg6
      have G6 := Lib.hid (G5.out.tr hg6)
      clear hg6 HF5
      go_wp2_with fail
      go_at_call 11
      refine live_any _ ?_
      intro w9 hg9
      have HG9 := Lib.hid hg9
      clear hg9
      go_wp2
      exact HR.out _ (G6.out.tr HG9.out)
    · have t2 : (e != 0) = true := by simp [he]
      clear he
      go_wp2_with fail
      go_at_call 11
      refine live_any _ ?_
      intro w9 hg9
      have HG9 := Lib.hid hg9
      clear hg9
      go_wp2
      exact HR.out _ (G3.out.tr HG9.out)
  · have t1 : decide (500 < (b.length : Int)) = true := by simp; omega
    go_enter Try.func9, Try.ntmps9
    go_wp2_with fail
    go_at_call 11
    refine live_any _ ?_
    intro w9 hg9
    have HG9 := Lib.hid hg9
    clear hg9
    go_wp2
    exact HR.out _ (HG9.out)
end Go.Proofs.Ytehffeglgdcogaa
