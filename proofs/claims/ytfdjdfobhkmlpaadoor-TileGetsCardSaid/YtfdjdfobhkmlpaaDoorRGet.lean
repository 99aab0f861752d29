import Derived.Test.YtfdjdfobhkmlpaaDoorWGet
namespace Go.Proofs.YtfdjdfobhkmlpaaDoor
open Go.RowKit Go.Lib

set_option maxRecDepth 100000 in
set_option maxHeartbeats 40000000 in
theorem rget_any (l : List UInt8) (v : Value) (S : Nat → Prop) (w : World) (hb : Rd w S 1 v l.length (U8 l)) (hl : l.length ≤ 1000000000000) {R : Ending → World → Prop}
    (hR : ∀ r fs w', w'.ownsRow w.heap.size 75 4 r fs.length (fs.flatMap Fld.cells) → FldsIn w' r fs → fs.map Fld.fd = (get l).1 → Grow w w' → R (.returned (.tuple #[r, .int .i64 (get l).2])) w') :
    Calls Tryd.prog 45 #[v] w R := by
  have hb := hb.lt (by decide)
  have HB := Lib.hid hb
  obtain ⟨_, A, c, rfl, h1, h2, _, _⟩ := hb
  unfold maxLen at h2
  have HR := Lib.hid hR
  have VA := Lib.hid fun k S W h => rvarint_any l (.slice A l.length c) k S W h (by omega)
  clear hR
  go_enter Tryd.func45, Tryd.ntmps45
  go_wp2
  go_loopw [5, 4] (fun i s wr => ∃ (k f : Nat) (acc : List Fld), k ≤ l.length ∧ i = .int .i64 k ∧ Hid (l.length - k < f) ∧ Hid (get l = getGo l f k (acc.map Fld.fd)) ∧ acc.length ≤ k ∧ wr.ownsRow w.heap.size 75 4 s acc.length (acc.flatMap Fld.cells) ∧ Hid (FldsIn wr s acc) ∧ Hid (Grow w wr)) (fun i _ _ => l.length - (intOf i).toNat)
  case atStart => exact ⟨0, l.length + 1, [], Nat.zero_le _, rfl, by show _ < _; omega, rfl, by simp, World.ownsRow_nil _ _ _ _, fun f hf => by simp at hf, Grow.refl _⟩
  case round =>
    obtain ⟨k, f, acc, hk, rfl, hf, hu, hal, hown, hin, hg⟩ := hrel
    by_cases hlt : k < l.length
    · have HO := Lib.hid hown
      clear hown
      have H := VA.out k _ wr (HB.out.grow hg.out)
      obtain ⟨f, rfl⟩ := Nat.exists_eq_succ_of_ne_zero (show f ≠ 0 by have := hf.out; omega)
      have hnk : ¬ l.length ≤ k := by omega
      have E1 := @getGo_err l f k (acc.map Fld.fd) hnk
      have E2 := @getGo_num l f k (acc.map Fld.fd) hnk
      have E3 := @getGo_body l f k (acc.map Fld.fd) hnk
      have E4 := @getGo_more l f k (acc.map Fld.fd) hnk
      have hok := fun {v nx : Int} => @varint_ok l k v nx
      have hbd := fun {v nx : Int} => @varint_bd l k v nx
      generalize varint l k = X at *
      obtain ⟨x, nx, e⟩ := X
      dsimp only at H E1 E2 E3 E4
      have H := Lib.hid H
      by_cases he : e = 0
      · subst he
        obtain ⟨hx0, _, hn1, hn2⟩ := hok rfl
        obtain ⟨hx1, -⟩ := hbd rfl
        obtain ⟨x, rfl⟩ := Int.eq_ofNat_of_zero_le hx0
        obtain ⟨nx, rfl⟩ := Int.eq_ofNat_of_zero_le (show 0 ≤ nx by omega)
        have e8 : ((x : Int) % 8).toNat = x % 8 := by omega
        have e9 : ((x : Int) / 8) = ((x / 8 : Nat) : Int) := by omega
        have e10 : ((x : Int) % 8) = ((x % 8 : Nat) : Int) := by omega
        have hkd8 : x % 8 < 8 := by omega
        have hnm : x / 8 < 2305843009213693952 := by omega
        rw [e8, e9] at E3 E4
        rw [e9] at E2
        rw [e10] at E4
        simp only [Int.toNat_natCast] at E3 E4
        have BO := fun {n : Nat} {d : List UInt8} {z : Int} => @bodyS_ok l nx (x % 8) n d z (by omega)
        clear E1 hok hbd hnk e8
        generalize x / 8 = num at *
        generalize x % 8 = kd at *
        have E2 := Lib.hid (E2 (by first | rfl | trivial))
        have E3 := Lib.hid (E3 (by first | rfl | trivial))
        have E4 := Lib.hid (E4 (by first | rfl | trivial))
        by_cases hnum : num < 1 ∨ 536870911 < num
        · have HH := HR.out (.slice none 0 0) []
          rw [hu.out, E2.out (by omega)] at HH
          have HH := Lib.hid HH
          clear E2 E3 E4 BO
          rcases hnum with hn | hn
          · obtain rfl : num = 0 := by omega
            clear hnm hn
            go_wp2_with fail
            refine H.out.mono ?_
            rintro e' w' ⟨rfl, rfl⟩
            go_wp2
            exact HH.out _ (World.ownsRow_nil _ _ _ _) (fun f hf => by simp at hf) rfl (hg.out.al _)
          · have q1 : decide ((num : Int) < 1) = false := by simp; omega
            have q2 : decide (536870911 < (num : Int)) = true := by simp; omega
            go_wp2_with fail
            refine H.out.mono ?_
            rintro e' w' ⟨rfl, rfl⟩
            go_wp2
            exact HH.out _ (World.ownsRow_nil _ _ _ _) (fun f hf => by simp at hf) rfl (hg.out.al _)
        · have q1 : decide ((num : Int) < 1) = false := by simp; omega
          have q2 : decide (536870911 < (num : Int)) = false := by simp; omega
          have E3 := Lib.hid (E3.out (by omega))
          have E4 := Lib.hid (E4.out (by omega))
          clear E2
          by_cases h0 : kd = 0
          · have z0 : ((kd : Int) == 0) = true := by subst h0; rfl
            have g2 : decide (2 < (kd : Int)) = false := by subst h0; rfl
            have BS : bodyS l nx kd = ((varint l nx).1.toNat, [], (varint l nx).2.1, (varint l nx).2.2) := by subst h0; simp [bodyS]
            have HN := VA.out nx _ _ (HB.out.grow (hg.out.al (.cells #[.int .i64 num, .int .i64 kd, .int .u64 0, .slice none 0 0] 75)))
            rw [BS] at BO E3 E4
            have hok := fun {v z : Int} => @varint_ok l nx v z
            have hve := varint_err l nx
            clear h0 BS
            generalize varint l nx = Y at *
            obtain ⟨y, z, e⟩ := Y
            dsimp only at HN BO E3 E4 hve
            have HN := Lib.hid HN
            by_cases he : e = 0
            · subst he
              obtain ⟨o1, o2, o3, o4⟩ := BO rfl
              obtain ⟨y0, -, -, -⟩ := hok rfl
              obtain ⟨y, rfl⟩ := Int.eq_ofNat_of_zero_le y0
              obtain ⟨z, rfl⟩ := Int.eq_ofNat_of_zero_le (show 0 ≤ z by omega)
              have E5 := Lib.hid (E4.out (by first | rfl | trivial))
              have HO1 := Lib.hid (show y < 18446744073709551616 by simpa using o1)
              clear E3 E4 BO hok hve o1
              go_wp2_with fail
              refine H.out.mono ?_
              rintro e' w' ⟨rfl, rfl⟩
              go_wp2_with fail
              refine HN.out.mono ?_
              rintro e' w' ⟨rfl, rfl⟩
              go_wp2_with (at_builtin; refine wpList_newAt rfl _ _ rfl el_fld (own_grow HO.out ((Grow.refl _).al _)) rfl 1 _ (World.size_alloc _ _) _ rfl (by decide) rfl (by simp [Value.oneCell']) (by omega) (hg.out.al _) ⟨Nat.le_refl _, (hg.out.al _).size⟩ ?_; intro v4 w4 hown4 hg4 hgr4 hb4)
              go_roundw
              case rel =>
                have hgr5 : wr.grownBy w4 u4.ownBlock := grow_of_alloc hgr4
                have hfok : Fld.ok wr (Ins u4) ⟨num, kd, y, [], .slice none 0 0⟩ := ⟨⟨by show _ ≤ ((num : Nat) : Int); omega, by show ((num : Nat) : Int) ≤ _; omega⟩, ⟨by show _ ≤ ((kd : Nat) : Int); omega, by show ((kd : Nat) : Int) ≤ _; omega⟩, HO1.out, Rd.nil⟩
                refine ⟨z, f, acc ++ [⟨num, kd, y, [], .slice none 0 0⟩], by omega, by go_num, ?_, ?_, by simp; omega, own_eq hown4 (by simp) (by simp [Fld.cells]), ?_, hg4⟩
                · show _ < _
                  have := hf.out
                  omega
                · show _ = _
                  rw [hu.out, E5.out]
                  simp [Fld.fd]
                · exact FldsIn.app1 hin.out hfok hgr5 (by rw [World.size_alloc]; omega) hb4
              case measure => simp [intOf]; omega
            · have t1 : (e != 0) = true := by simp [he]
              obtain ⟨rfl, rfl⟩ := hve he
              have HH := HR.out (.slice none 0 0) []
              rw [hu.out, E3.out he] at HH
              have HH := Lib.hid HH
              clear E2 E3 E4 BO
              clear he hok
              go_wp2_with fail
              refine H.out.mono ?_
              rintro e' w' ⟨rfl, rfl⟩
              go_wp2_with fail
              refine HN.out.mono ?_
              rintro e' w' ⟨rfl, rfl⟩
              go_wp2
              exact HH.out _ (World.ownsRow_nil _ _ _ _) (fun f hf => by simp at hf) rfl (hg.out.al _)
          · have z0 : ((kd : Int) == 0) = false := by rw [beq_eq_false_iff_ne]; omega
            by_cases h2' : kd = 2
            · have z2 : ((kd : Int) == 2) = true := by subst h2'; rfl
              have g2 : decide (2 < (kd : Int)) = false := by subst h2'; rfl
              have BS1 : (varint l nx).2.2 ≠ 0 → bodyS l nx kd = (0, [], 0, (varint l nx).2.2) := by subst h2'; intro he; simp [bodyS, he]
              have BS2 : (varint l nx).2.2 = 0 → (l.length : Int) - (varint l nx).2.1 < (varint l nx).1 → bodyS l nx kd = (0, [], 0, 2) := by subst h2'; intro he hs; simp [bodyS, he, hs]
              have BS3 : (varint l nx).2.2 = 0 → ¬ (l.length : Int) - (varint l nx).2.1 < (varint l nx).1 → bodyS l nx kd = (0, (l.drop (varint l nx).2.1.toNat).take (varint l nx).1.toNat, (varint l nx).2.1 + (varint l nx).1, 0) := by subst h2'; intro he hs; simp [bodyS, he, hs]
              have HN := VA.out nx _ _ (HB.out.grow (hg.out.al (.cells #[.int .i64 num, .int .i64 kd, .int .u64 0, .slice none 0 0] 75)))
              have hok := fun {v z : Int} => @varint_ok l nx v z
              have hbd := fun {v z : Int} => @varint_bd l nx v z
              have hve := varint_err l nx
              clear h0 h2'
              generalize varint l nx = Y at *
              obtain ⟨y, z, e⟩ := Y
              dsimp only at HN BS1 BS2 BS3 hve
              have HN := Lib.hid HN
              by_cases he : e = 0
              · subst he
                obtain ⟨y0, -, p1, p2⟩ := hok rfl
                obtain ⟨y1, -⟩ := hbd rfl
                obtain ⟨y, rfl⟩ := Int.eq_ofNat_of_zero_le y0
                obtain ⟨z, rfl⟩ := Int.eq_ofNat_of_zero_le (show 0 ≤ z by omega)
                by_cases hs : (l.length : Int) - z < y
                · have BS := BS2 rfl hs
                  rw [BS] at E3
                  have HH := HR.out (.slice none 0 0) []
                  rw [hu.out, E3.out (by decide)] at HH
                  have HH := Lib.hid HH
                  clear E2 E3 E4 BO
                  clear BS1 BS2 BS3 BS hok hbd hve
                  go_wp2_with fail
                  refine H.out.mono ?_
                  rintro e' w' ⟨rfl, rfl⟩
                  go_wp2_with fail
                  refine HN.out.mono ?_
                  rintro e' w' ⟨rfl, rfl⟩
                  go_wp2
                  exact HH.out _ (World.ownsRow_nil _ _ _ _) (fun f hf => by simp at hf) rfl (hg.out.al _)
                · have BS := BS3 rfl hs
                  rw [BS] at E4
                  have E5 := Lib.hid (E4.out (by first | rfl | trivial))
                  rw [show ((z : Int) + (y : Int)).toNat = z + y by omega] at E5
                  simp only [Int.toNat_natCast] at E5
                  have hsn : z + y ≤ l.length := by omega
                  have u1 : IntKind.u64.wrap ((l.length : Int) - z) = (l.length : Int) - z := by rw [IntKind.wrap_u64]; omega
                  have u2 : decide ((l.length : Int) - z < y) = false := by simp; omega
                  have hlen : ((l.drop z).take y).length = y := by simp; omega
                  have HSB := Rd.sub8 (HB.out.gr2 (by decide) hg.out) hsn
                  have hsz : ∀ b, b < w.heap.size → Ins u4 b := fun b hb e => by
                    have := (HO.out.lt b e.symm).1
                    omega
                  have HO1 := Lib.hid (show (0 : Nat) < 18446744073709551616 by decide)
                  clear BS1 BS2 BS3 BS hok hbd hve E3 E4 BO hs
                  generalize (l.drop z).take y = D at *
                  by_cases hcn : c = z
                  · rw [if_pos hcn] at HSB
                    subst hcn
                    rw [Nat.sub_self] at HSB
                    have HSB := Lib.hid (HSB.into hsz)
                    go_wp2_with fail
                    refine H.out.mono ?_
                    rintro e' w' ⟨rfl, rfl⟩
                    go_wp2_with fail
                    refine HN.out.mono ?_
                    rintro e' w' ⟨rfl, rfl⟩
                    clear H HN
                    go_wp2_with (at_builtin; refine wpList_newAt rfl _ _ rfl el_fld (own_grow HO.out ((Grow.refl _).al _)) rfl 1 _ (World.size_alloc _ _) _ rfl (by decide) rfl (by simp [Value.oneCell']) (by omega) (hg.out.al _) ⟨Nat.le_refl _, (hg.out.al _).size⟩ ?_; intro v4 w4 hown4 hg4 hgr4 hb4)
                    go_roundw
                    case rel =>
                      have hgr5 : wr.grownBy w4 u4.ownBlock := grow_of_alloc hgr4
                      have hfok : Fld.ok wr (Ins u4) ⟨num, kd, 0, D, .slice A y 0⟩ := ⟨⟨by show _ ≤ ((num : Nat) : Int); omega, by show ((num : Nat) : Int) ≤ _; omega⟩, ⟨by show _ ≤ ((kd : Nat) : Int); omega, by show ((kd : Nat) : Int) ≤ _; omega⟩, HO1.out, HSB.out⟩
                      refine ⟨c + y, f, acc ++ [⟨num, kd, 0, D, .slice A y 0⟩], by omega, by go_num, ?_, ?_, by simp; omega, own_eq hown4 (by simp) (by simp [Fld.cells]), ?_, hg4⟩
                      · show _ < _
                        have := hf.out
                        omega
                      · show _ = _
                        rw [hu.out, E5.out]
                        simp [Fld.fd]
                      · exact FldsIn.app1 hin.out hfok hgr5 (by rw [World.size_alloc]; omega) hb4
                    case measure => simp [intOf]; omega
                  · rw [if_neg hcn] at HSB
                    have HSB := Lib.hid (HSB.into hsz)
                    go_wp2_with fail
                    refine H.out.mono ?_
                    rintro e' w' ⟨rfl, rfl⟩
                    go_wp2_with fail
                    refine HN.out.mono ?_
                    rintro e' w' ⟨rfl, rfl⟩
                    clear H HN
                    go_wp2_with (at_builtin; refine wpList_newAt rfl _ _ rfl el_fld (own_grow HO.out ((Grow.refl _).al _)) rfl 1 _ (World.size_alloc _ _) _ rfl (by decide) rfl (by simp [Value.oneCell']) (by omega) (hg.out.al _) ⟨Nat.le_refl _, (hg.out.al _).size⟩ ?_; intro v4 w4 hown4 hg4 hgr4 hb4)
                    go_roundw
                    case rel =>
                      have hgr5 : wr.grownBy w4 u4.ownBlock := grow_of_alloc hgr4
                      have hfok : Fld.ok wr (Ins u4) ⟨num, kd, 0, D, .slice (Option.map (fun x => x.add z) A) y (c - z)⟩ := ⟨⟨by show _ ≤ ((num : Nat) : Int); omega, by show ((num : Nat) : Int) ≤ _; omega⟩, ⟨by show _ ≤ ((kd : Nat) : Int); omega, by show ((kd : Nat) : Int) ≤ _; omega⟩, HO1.out, HSB.out⟩
                      refine ⟨z + y, f, acc ++ [⟨num, kd, 0, D, .slice (Option.map (fun x => x.add z) A) y (c - z)⟩], by omega, by go_num, ?_, ?_, by simp; omega, own_eq hown4 (by simp) (by simp [Fld.cells]), ?_, hg4⟩
                      · show _ < _
                        have := hf.out
                        omega
                      · show _ = _
                        rw [hu.out, E5.out]
                        simp [Fld.fd]
                      · exact FldsIn.app1 hin.out hfok hgr5 (by rw [World.size_alloc]; omega) hb4
                    case measure => simp [intOf]; omega
              · have t1 : (e != 0) = true := by simp [he]
                have BS := BS1 he
                rw [BS] at E3
                obtain ⟨rfl, rfl⟩ := hve he
                have HH := HR.out (.slice none 0 0) []
                rw [hu.out, E3.out he] at HH
                have HH := Lib.hid HH
                clear E2 E3 E4 BO
                clear he hok hbd BS BS1 BS2 BS3
                go_wp2_with fail
                refine H.out.mono ?_
                rintro e' w' ⟨rfl, rfl⟩
                go_wp2_with fail
                refine HN.out.mono ?_
                rintro e' w' ⟨rfl, rfl⟩
                go_wp2
                exact HH.out _ (World.ownsRow_nil _ _ _ _) (fun f hf => by simp at hf) rfl (hg.out.al _)
            · have z2 : ((kd : Int) == 2) = false := by rw [beq_eq_false_iff_ne]; omega
              by_cases h1' : kd = 1
              · have hk5 := h1'
                have g2 : decide (2 < (kd : Int)) = false := by subst h1'; rfl
                have z5 : ((kd : Int) == 5) = false := by subst h1'; rfl
                clear h0 h2' h1'
                have BS1 : l.length - nx < 8 → bodyS l nx kd = (0, [], 0, 2) := by intro hs; simp [bodyS, hk5, hs]
                have BS2 : ¬ l.length - nx < 8 → bodyS l nx kd = (lowN ((l.drop nx).take 8), [], ((nx + 8 : Nat) : Int), 0) := by intro hs; simp [bodyS, hk5, hs]
                clear hk5
                by_cases hs : l.length - nx < 8
                · have u1 : decide ((l.length : Int) - nx < 8) = true := by simp; omega
                  have BS := BS1 hs
                  rw [BS] at E3
                  have HH := HR.out (.slice none 0 0) []
                  rw [hu.out, E3.out (by decide)] at HH
                  have HH := Lib.hid HH
                  clear E2 E3 E4 BO
                  clear BS BS1 BS2 hs
                  go_wp2_with fail
                  refine H.out.mono ?_
                  rintro e' w' ⟨rfl, rfl⟩
                  go_wp2
                  exact HH.out _ (World.ownsRow_nil _ _ _ _) (fun f hf => by simp at hf) rfl (hg.out.al _)
                · have u1 : decide ((l.length : Int) - nx < 8) = false := by simp; omega
                  have BS := BS2 hs
                  rw [BS] at E4
                  have E5 := Lib.hid (E4.out (by first | rfl | trivial))
                  simp only [Int.toNat_natCast] at E5
                  have hsn : nx + 8 ≤ l.length := by omega
                  have hlen : ((l.drop nx).take 8).length = 8 := by simp; omega
                  have HSB := Rd.sub8 (HB.out.gr2 (by decide) (hg.out.al (.cells #[.int .i64 num, .int .i64 kd, .int .u64 0, .slice none 0 0] 75))) hsn
                  have hcn : ¬ c = nx := by omega
                  rw [if_neg hcn] at HSB
                  have HSB := Lib.hid HSB
                  have HO1 := Lib.hid (lowN_64 (l := (l.drop nx).take 8) (by omega))
                  have NB := Lib.hid fun v S W h (R : Ending → World → Prop) hR => number_any ((l.drop nx).take 8) v S W h (by omega) (R := R) hR
                  clear BS BS1 BS2 hs E3 E4 BO hlen
                  generalize lowN ((l.drop nx).take 8) = q at *
                  go_wp2_with fail
                  refine H.out.mono ?_
                  rintro e' w' ⟨rfl, rfl⟩
                  go_wp2_with fail
                  go_at_call 77
                  refine NB.out _ _ _ HSB.out _ ?_
                  clear H NB
                  go_wp2_with (at_builtin; refine wpList_newAt rfl _ _ rfl el_fld (own_grow HO.out ((Grow.refl _).al _)) rfl 1 _ (World.size_alloc _ _) _ rfl (by decide) rfl (by simp [Value.oneCell']) (by omega) (hg.out.al _) ⟨Nat.le_refl _, (hg.out.al _).size⟩ ?_; intro v4 w4 hown4 hg4 hgr4 hb4)
                  go_roundw
                  case rel =>
                    have hgr5 : wr.grownBy w4 u4.ownBlock := grow_of_alloc hgr4
                    have hfok : Fld.ok wr (Ins u4) ⟨num, kd, q, [], .slice none 0 0⟩ := ⟨⟨by show _ ≤ ((num : Nat) : Int); omega, by show ((num : Nat) : Int) ≤ _; omega⟩, ⟨by show _ ≤ ((kd : Nat) : Int); omega, by show ((kd : Nat) : Int) ≤ _; omega⟩, HO1.out, Rd.nil⟩
                    refine ⟨nx + 8, f, acc ++ [⟨num, kd, q, [], .slice none 0 0⟩], by omega, by go_num, ?_, ?_, by simp; omega, own_eq hown4 (by simp) (by simp [Fld.cells]), ?_, hg4⟩
                    · show _ < _
                      have := hf.out
                      omega
                    · show _ = _
                      rw [hu.out, E5.out]
                      simp [Fld.fd]
                    · exact FldsIn.app1 hin.out hfok hgr5 (by rw [World.size_alloc]; omega) hb4
                  case measure => simp [intOf]; omega
              · by_cases h5' : kd = 5
                · have hk5 := h5'
                  have g2 : decide (2 < (kd : Int)) = true := by subst h5'; rfl
                  have z5 : ((kd : Int) == 5) = true := by subst h5'; rfl
                  have z6 : ((kd : Int) != 5) = false := by subst h5'; rfl
                  clear h0 h2' h1' h5'
                  have BS1 : l.length - nx < 4 → bodyS l nx kd = (0, [], 0, 2) := by intro hs; simp [bodyS, hk5, hs]
                  have BS2 : ¬ l.length - nx < 4 → bodyS l nx kd = (lowN ((l.drop nx).take 4), [], ((nx + 4 : Nat) : Int), 0) := by intro hs; simp [bodyS, hk5, hs]
                  clear hk5
                  by_cases hs : l.length - nx < 4
                  · have u1 : decide ((l.length : Int) - nx < 4) = true := by simp; omega
                    have BS := BS1 hs
                    rw [BS] at E3
                    have HH := HR.out (.slice none 0 0) []
                    rw [hu.out, E3.out (by decide)] at HH
                    have HH := Lib.hid HH
                    clear E2 E3 E4 BO
                    clear BS BS1 BS2 hs
                    go_wp2_with fail
                    refine H.out.mono ?_
                    rintro e' w' ⟨rfl, rfl⟩
                    go_wp2
                    exact HH.out _ (World.ownsRow_nil _ _ _ _) (fun f hf => by simp at hf) rfl (hg.out.al _)
                  · have u1 : decide ((l.length : Int) - nx < 4) = false := by simp; omega
                    have BS := BS2 hs
                    rw [BS] at E4
                    have E5 := Lib.hid (E4.out (by first | rfl | trivial))
                    simp only [Int.toNat_natCast] at E5
                    have hsn : nx + 4 ≤ l.length := by omega
                    have hlen : ((l.drop nx).take 4).length = 4 := by simp; omega
                    have HSB := Rd.sub8 (HB.out.gr2 (by decide) (hg.out.al (.cells #[.int .i64 num, .int .i64 kd, .int .u64 0, .slice none 0 0] 75))) hsn
                    have hcn : ¬ c = nx := by omega
                    rw [if_neg hcn] at HSB
                    have HSB := Lib.hid HSB
                    have HO1 := Lib.hid (lowN_64 (l := (l.drop nx).take 4) (by omega))
                    have NB := Lib.hid fun v S W h (R : Ending → World → Prop) hR => number_any ((l.drop nx).take 4) v S W h (by omega) (R := R) hR
                    clear BS BS1 BS2 hs E3 E4 BO hlen
                    generalize lowN ((l.drop nx).take 4) = q at *
                    go_wp2_with fail
                    refine H.out.mono ?_
                    rintro e' w' ⟨rfl, rfl⟩
                    go_wp2_with fail
                    go_at_call 77
                    refine NB.out _ _ _ HSB.out _ ?_
                    clear H NB
                    go_wp2_with (at_builtin; refine wpList_newAt rfl _ _ rfl el_fld (own_grow HO.out ((Grow.refl _).al _)) rfl 1 _ (World.size_alloc _ _) _ rfl (by decide) rfl (by simp [Value.oneCell']) (by omega) (hg.out.al _) ⟨Nat.le_refl _, (hg.out.al _).size⟩ ?_; intro v4 w4 hown4 hg4 hgr4 hb4)
                    go_roundw
                    case rel =>
                      have hgr5 : wr.grownBy w4 u4.ownBlock := grow_of_alloc hgr4
                      have hfok : Fld.ok wr (Ins u4) ⟨num, kd, q, [], .slice none 0 0⟩ := ⟨⟨by show _ ≤ ((num : Nat) : Int); omega, by show ((num : Nat) : Int) ≤ _; omega⟩, ⟨by show _ ≤ ((kd : Nat) : Int); omega, by show ((kd : Nat) : Int) ≤ _; omega⟩, HO1.out, Rd.nil⟩
                      refine ⟨nx + 4, f, acc ++ [⟨num, kd, q, [], .slice none 0 0⟩], by omega, by go_num, ?_, ?_, by simp; omega, own_eq hown4 (by simp) (by simp [Fld.cells]), ?_, hg4⟩
                      · show _ < _
                        have := hf.out
                        omega
                      · show _ = _
                        rw [hu.out, E5.out]
                        simp [Fld.fd]
                      · exact FldsIn.app1 hin.out hfok hgr5 (by rw [World.size_alloc]; omega) hb4
                    case measure => simp [intOf]; omega
                · have g2 : decide (2 < (kd : Int)) = true := by simp; omega
                  have z6 : ((kd : Int) != 5) = true := by simp; omega
                  have BS : bodyS l nx kd = (0, [], 0, 3) := by simp [bodyS, h0, h2', h1', h5']
                  rw [BS] at E3
                  have HH := HR.out (.slice none 0 0) []
                  rw [hu.out, E3.out (by decide)] at HH
                  have HH := Lib.hid HH
                  clear E2 E3 E4 BO
                  clear BS h0 h2' h1' h5'
                  go_wp2_with fail
                  refine H.out.mono ?_
                  rintro e' w' ⟨rfl, rfl⟩
                  go_wp2
                  exact HH.out _ (World.ownsRow_nil _ _ _ _) (fun f hf => by simp at hf) rfl (hg.out.al _)
      · have t1 : (e != 0) = true := by simp [he]
        have F1 := Lib.hid (E1 he)
        clear E1 E2 E3 E4 hok hbd hnk he
        go_wp2_with fail
        refine H.out.mono ?_
        rintro e w' ⟨rfl, rfl⟩
        go_wp2
        have h := HR.out (.slice none 0 0) []
        rw [hu.out, F1.out] at h
        exact h _ (World.ownsRow_nil _ _ _ _) (fun f hf => by simp at hf) rfl hg.out
    · obtain rfl : k = l.length := by omega
      have h := HR.out
      rw [hu.out, getGo_end (Nat.le_refl _)] at h
      go_wp2
      exact h _ _ _ hown hin.out rfl hg.out
end Go.Proofs.YtfdjdfobhkmlpaaDoor
