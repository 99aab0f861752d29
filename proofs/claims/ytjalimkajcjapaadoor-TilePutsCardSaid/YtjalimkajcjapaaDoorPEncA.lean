/-
  path.Encode. path.Encode: points, and what may not be; whole. The reference's Encode (portolanref09).
-/
import Derived.Test.YtjalimkajcjapaaDoorChecked
import Derived.Test.YtjalimkajcjapaaDoorPDecA
import Derived.Test.YtjalimkajcjapaaDoorPRightA
namespace Go.Proofs.YtjalimkajcjapaaDoor
open Go.RowKit B

def lastAll (a : Pt) (ps : List (List Pt)) : Pt := ps.foldl lastPt a
def encP (kind : Int) (a : Pt) (p : List Pt) : List Int := 9 :: putPts (p.take 1) a ++ (((p.length - 1 : Nat) : Int) * 8 + 2) :: putPts (p.drop 1) (lastPt a (p.take 1)) ++ (if kind = 3 then [15] else [])
theorem lastAll_snoc (a : Pt) (ps : List (List Pt)) (p : List Pt) : lastAll a (ps ++ [p]) = lastPt (lastAll a ps) p := by simp [lastAll]
theorem encG_cons (kind : Int) (a : Pt) (p : List Pt) (ps : List (List Pt)) : encG kind a (p :: ps) = encP kind a p ++ encG kind (lastPt a p) ps := by simp [encG, encP]
theorem encG_app (kind : Int) : ∀ (ps qs : List (List Pt)) (a : Pt), encG kind a (ps ++ qs) = encG kind a ps ++ encG kind (lastAll a ps) qs
  | [], qs, a => rfl
  | p :: ps, qs, a => by
    rw [List.cons_append, encG_cons, encG_cons, encG_app kind ps qs (lastPt a p), List.append_assoc]
    rfl
theorem encG_snoc (kind : Int) (ps : List (List Pt)) (p : List Pt) (a : Pt) : encG kind a (ps ++ [p]) = encG kind a ps ++ encP kind (lastAll a ps) p := by
  rw [encG_app, encG_cons]
  simp [encG]
theorem encG_take_len (kind : Int) (ps : List (List Pt)) (k : Nat) (a : Pt) : (encG kind a (ps.take k)).length ≤ (encG kind a ps).length := by
  have := encG_app kind (ps.take k) (ps.drop k) a
  rw [List.take_append_drop] at this
  rw [this, List.length_append]
  omega
theorem encP_len (kind : Int) (a : Pt) (p : List Pt) : p.length ≤ (encP kind a p).length := by
  simp only [encP, List.length_append, List.length_cons, putPts_len, List.length_drop, List.length_take]
  omega
theorem lastAll_near {a : Pt} : ∀ {ps : List (List Pt)}, Near a → (∀ p ∈ ps, ∀ x ∈ p, Near x) → Near (lastAll a ps) := by
  intro ps
  induction ps generalizing a with
  | nil => intro ha _; exact ha
  | cons p ps ih => intro ha h; exact ih (a := lastPt a p) (lastPt_near ha (h p (by simp))) (fun q hq => h q (by simp [hq]))
theorem encP_split (kind : Int) (a : Pt) (p : List Pt) (h : 1 ≤ p.length) : encP kind a p = ((((p.take 1).length * 8 + 1 : Nat) : Int) :: putPts (p.take 1) a ++ (((p.drop 1).length * 8 + 2 : Nat) : Int) :: putPts (p.drop 1) (lastPt a (p.take 1))) ++ (if kind = 3 then [15] else []) := by
  unfold encP
  rw [List.length_take, List.length_drop, Nat.min_eq_left h]
  congr 3
theorem lastPt_split (a : Pt) (p : List Pt) : lastPt (lastPt a (p.take 1)) (p.drop 1) = lastPt a p := by rw [lastPt_app, List.take_append_drop]

theorem Rd.sub2 {w : World} {S : Nat → Prop} {b o c : Nat} {l : List Pt} (h : Rd w S 2 (.slice (some ⟨b, o, none⟩) l.length c) l.length (Pts l)) (hl : 1 ≤ l.length) :
    Rd w S 2 (.slice (some ⟨b, o, none⟩) 1 c) (l.take 1).length (Pts (l.take 1)) := by
  obtain ⟨_, A', c', hv, h1, h2, h3, h4⟩ := h
  injection hv with e1 _ e2
  subst e1 e2
  have e : (l.take 1).length = 1 := by rw [List.length_take]; omega
  refine ⟨Pts_len _, _, _, by rw [e], by omega, h2, h3, fun _ => ?_⟩
  obtain ⟨b', o', hb, hS, hc⟩ := h4 (by omega)
  refine ⟨b', o', hb, hS, fun j u hu => hc j u ?_⟩
  have : Pts l = Pts (l.take 1) ++ Pts (l.drop 1) := by rw [← Pts_app, List.take_append_drop]
  rw [this]
  have hj : j < (Pts (l.take 1)).length := (List.getElem?_eq_some_iff.1 hu).1
  rw [List.getElem?_append_left hj]
  exact hu

theorem Rd.rest2 {w : World} {S : Nat → Prop} {b o c : Nat} {l : List Pt} (h : Rd w S 2 (.slice (some ⟨b, o, none⟩) l.length c) l.length (Pts l)) (hl : 1 ≤ l.length) :
    Rd w S 2 (.slice (some ⟨b, o + 2, none⟩) (l.length - 1) (c - 1)) (l.drop 1).length (Pts (l.drop 1)) := by
  obtain ⟨_, A', c', hv, h1, h2, h3, h4⟩ := h
  injection hv with e1 _ e2
  subst e1 e2
  have e : (l.drop 1).length = l.length - 1 := List.length_drop
  refine ⟨Pts_len _, _, _, by rw [e], by rw [e]; omega, by omega, (fun h => by cases h), fun _ => ?_⟩
  obtain ⟨b', o', hb, hS, hc⟩ := h4 (by omega)
  injection hb with hb
  injection hb with hb1 hb2
  subst hb1 hb2
  refine ⟨b, o + 2, rfl, hS, fun j u hu => ?_⟩
  have := hc (2 + j) u (by
    have e2 : Pts l = Pts (l.take 1) ++ Pts (l.drop 1) := by rw [← Pts_app, List.take_append_drop]
    rw [e2, List.getElem?_append_right (by rw [Pts_len, List.length_take]; omega), Pts_len, List.length_take, Nat.min_eq_left hl, ← hu]
    congr 1
    omega)
  rw [show o + 2 + j = o + (2 + j) by omega]
  exact this

set_option maxRecDepth 100000 in
set_option maxHeartbeats 8000000 in
theorem encode_any (kind : Int) (a : Value) (A : List PRow) (S S' : Nat → Prop) (w : World) (hk : 2 ≤ kind ∧ kind ≤ 3) (ha : Rd w S 1 a A.length (A.map PRow.v)) (hA : ∀ r ∈ A, r.rd w S') (hp : pright kind A = 0) (hle : (encG kind ⟨0, 0⟩ (A.map PRow.l)).length ≤ 1000) {R : Ending → World → Prop}
    (hR : ∀ v w', w'.ownsRow w.heap.size 72 1 v (encG kind ⟨0, 0⟩ (A.map PRow.l)).length (U32 (encG kind ⟨0, 0⟩ (A.map PRow.l))) → Grow w w' → R (.returned (.tuple #[v, .int .i64 0])) w') :
    Calls Tryd.prog 35 #[.int .i64 kind, a] w R := by
  have HR := Lib.hid hR
  have ha := ha.lt (by decide)
  have HA0 := Lib.hid ha
  have HA := Lib.hid fun r hr => (hA r hr : Rd _ _ _ _ _ _).lt (by decide)
  have HLE := Lib.hid hle
  have HP := Lib.hid hp
  have hNR : ∀ r ∈ A, kind ≤ (r.l.length : Int) ∧ ∀ x ∈ r.l, Near x := by
    unfold pright at hp
    rw [if_neg (by omega)] at hp
    split at hp
    · omega
    · split at hp
      · omega
      · rename_i h1 h2
        split at hp
        · omega
        · rename_i h3
          intro r hr
          refine ⟨Int.not_lt.1 fun h => h2 ⟨r, hr, h⟩, fun x hx => ?_⟩
          have h4 : x.off = false := by
            cases ho : x.off with
            | false => rfl
            | true => exact absurd (List.any_eq_true.2 ⟨r, hr, List.any_eq_true.2 ⟨x, hx, ho⟩⟩) h3
          unfold Pt.off at h4
          rw [Bool.or_eq_false_iff, Bool.not_eq_false', Bool.not_eq_false'] at h4
          exact ⟨inm_iff.1 h4.1, inm_iff.1 h4.2⟩
  have HNR := Lib.hid hNR
  have k1 : (kind == 1) = false := by rw [beq_eq_false_iff_ne]; omega
  obtain ⟨_, A0, c, rfl, h1, h2, h3, h4⟩ := ha
  unfold maxLen at h2
  clear hR hle hp hNR hA h3
  have HK := Lib.hid hk
  clear hk
  go_enter Tryd.func35, Tryd.ntmps35
  go_wp2_with fail
  refine pathRight_any kind _ A _ _ w HA0.out HA.out ?_
  intro w1 hg1
  rw [HP.out]
  have G1 := Lib.hid hg1
  clear hg1
  have BX := Lib.hid (BoxH.laid #[.slice none 0 0, .int .i64 0, .int .i64 0] 125 (Grow.refl w1))
  go_wp2
  clear k1
  generalize w1.alloc (.cells #[.slice none 0 0, .int .i64 0, .int .i64 0] 125) = wa at *
  go_loopw [31] (fun i wr => ∃ (k : Nat) (v : Value), k ≤ A.length ∧ i = .int .i64 k ∧ Hid (BoxH w1 w1.heap.size #[v, .int .i64 (lastAll ⟨0, 0⟩ ((A.take k).map PRow.l)).x, .int .i64 (lastAll ⟨0, 0⟩ ((A.take k).map PRow.l)).y] 125 wr) ∧ Hid (wr.ownsRow w1.heap.size 72 1 v (encG kind ⟨0, 0⟩ ((A.take k).map PRow.l)).length (U32 (encG kind ⟨0, 0⟩ ((A.take k).map PRow.l)))) ∧ Hid (v.ownBlock ≠ some w1.heap.size)) (fun i _ => A.length - (intOf i).toNat)
  case atStart => exact ⟨0, _, Nat.zero_le _, rfl, BX.out, World.ownsRow_nil _ _ _ _, (by simp [Value.ownBlock] : (Value.slice none 0 0).ownBlock ≠ some w1.heap.size)⟩
  case round =>
    clear BX
    obtain ⟨k, v, hk, rfl, hB, hO, hNE⟩ := hrel
    by_cases hlt : k < A.length
    · obtain ⟨b1, o1, rfl, -, -⟩ := h4 (by omega)
      have C1 : wr.cell? ⟨b1, o1 + k, none⟩ = some (A[k]'hlt).v := by
        have := rd_cell (G1.out.tr hB.out.grow) HA0.out rfl (i := k) (by simpa using hlt)
        rw [List.getElem_map] at this
        exact this
      have r1 := HA.out (A[k]'hlt) (List.getElem_mem hlt)
      have NR := HNR.out (A[k]'hlt) (List.getElem_mem hlt)
      have TK : Hid ((A.take (k + 1)).map PRow.l = (A.take k).map PRow.l ++ [(A[k]'hlt).l]) := by
        show _ = _
        rw [List.take_succ_eq_append_getElem hlt, List.map_append]; rfl
      have NA : Hid (Near (lastAll ⟨0, 0⟩ ((A.take k).map PRow.l))) := lastAll_near ⟨⟨by decide, by decide⟩, by decide, by decide⟩ (fun p hp x hx => by
        obtain ⟨r, hr, rfl⟩ := List.mem_map.1 hp
        exact (HNR.out r (List.mem_of_mem_take hr)).2 x hx)
      have LE : Hid ((encG kind ⟨0, 0⟩ ((A.take (k + 1)).map PRow.l)).length ≤ 1000) := by
        show _ ≤ _
        rw [List.map_take]
        exact Nat.le_trans (encG_take_len _ _ _ _) HLE.out
      clear h4
      rw [TK.out, encG_snoc] at LE
      generalize (A.take k).map PRow.l = ps at *
      generalize A[k]'hlt = ra at *
      obtain ⟨v1, l1⟩ := ra
      dsimp only at *
      have RR := Lib.hid ((r1.gr2 (by decide) G1.out).up G1.out.size)
      have hL1 : 2 ≤ l1.length := by have := NR.1; have := HK.out; omega
      have LEN : Hid ((encG kind ⟨0, 0⟩ ps).length + l1.length ≤ 1000) := by
        show _ ≤ _
        have := LE.out
        rw [List.length_append] at this
        have := encP_len kind (lastAll ⟨0, 0⟩ ps) l1
        omega
      have NRH := Lib.hid NR.2
      obtain ⟨_, X, cx, rfl, x1, x2, -, x4⟩ := r1
      obtain ⟨b3, o3, rfl, -, -⟩ := x4 (by omega)
      unfold maxLen at x2
      have hcx : ¬ cx = 1 := by omega
      clear x4 NR
      obtain ⟨us, hus⟩ : ∃ us, encG kind ⟨0, 0⟩ ps = us := ⟨_, rfl⟩
      obtain ⟨at_, hat⟩ : ∃ at_, lastAll ⟨0, 0⟩ ps = at_ := ⟨_, rfl⟩
      rw [hus, hat] at LE
      rw [hus] at hO LEN
      rw [hat] at hB NA
      have US := Lib.hid hus
      have LA := Lib.hid hat
      clear hus hat
      go_wp2_with fail
      refine wput_any 1 (l1.take 1) _ w1.heap.size v us at_ w1.heap.size w1 wr hB.out hO.out hNE.out ⟨Nat.le_refl _, hB.out.grow.size⟩ (Rd.sub2 RR.out (by omega)) (by decide) (by rw [List.length_take]; omega) (by have := LEN.out; omega) (fun p hp => NRH.out p (List.mem_of_mem_take hp)) NA.out ?_
      intro lv2 w2 hB2 hO2 hNE2 hg2
      have B2 := Lib.hid hB2
      have O2 := Lib.hid hO2
      have NE2 := Lib.hid hNE2
      clear hB2 hO2 hNE2 hg2 hB hO hNE C1
      go_wp2_with fail
      refine wput_any 2 (l1.drop 1) _ w1.heap.size lv2 (us ++ (((l1.take 1).length * 8 + 1 : Nat) : Int) :: putPts (l1.take 1) at_) (lastPt at_ (l1.take 1)) w1.heap.size w1 w2 B2.out O2.out NE2.out ⟨Nat.le_refl _, B2.out.grow.size⟩ (Rd.rest2 RR.out (by omega)) (by decide) (by rw [List.length_drop]; have := LEN.out; omega) (by rw [List.length_append, List.length_cons, putPts_len, List.length_take]; have := LEN.out; omega) (fun p hp => NRH.out p (List.mem_of_mem_drop hp)) (lastPt_near NA.out (fun p hp => NRH.out p (List.mem_of_mem_take hp))) ?_
      intro lv3 w3 hB3 hO3 hNE3 hg3
      rw [lastPt_split] at hB3
      have B3 := Lib.hid hB3
      have ES := encP_split kind at_ l1 (by omega)
      have NE3 := Lib.hid hNE3
      have O3 : Hid (w3.ownsRow w1.heap.size 72 1 lv3 _ _) := hO3
      clear hB3 hO3 hNE3 hg3 B2 O2 NE2
      by_cases h3 : kind = 3
      · have k3 : (kind == 3) = true := by rw [beq_iff_eq]; exact h3
        rw [if_pos h3] at ES
        obtain ⟨F, hF⟩ : ∃ F, ((((l1.take 1).length * 8 + 1 : Nat) : Int) :: putPts (l1.take 1) at_ ++ (((l1.drop 1).length * 8 + 2 : Nat) : Int) :: putPts (l1.drop 1) (lastPt at_ (l1.take 1))) = F := ⟨_, rfl⟩
        rw [hF] at ES
        have O3' := O3.out
        rw [List.append_assoc, hF] at O3'
        have O3 := Lib.hid O3'
        have EH := Lib.hid ES
        have LEF : Hid ((us ++ F).length ≤ 1000) := by
          show _ ≤ _
          have := LE.out
          rw [ES] at this
          simp only [List.length_append, List.length_singleton] at this ⊢
          omega
        clear ES h3 hF O3'
        generalize hxs : us ++ F = xs3 at *
        have XS := Lib.hid hxs
        clear hxs
        have y0 := B3.out.cell 0
        go_wp2_with (at_builtin; refine wpList_new (w0 := w1) rfl _ _ rfl el_u32 O3.out rfl 1 _ rfl (by decide) rfl (by simp [Value.oneCell']) (by have := LEF.out; omega) B3.out.grow ⟨Nat.le_refl _, B3.out.grow.size⟩ ?_; intro v4 w4 hown4 hg4 hgr4 hb4; obtain ⟨X4, cc4, hv4⟩ := own_slice hown4; subst hv4; have O4 := Lib.hid hown4; have B4 := Lib.hid (B3.out.by_ hgr4 (own_ge O3.out) (fun e => NE3.out e.symm)); have NE4 := Lib.hid (ins_ne NE3.out B3.out.lt hb4); have p4 := B4.out.cell 0; have f4 := B4.out.free 0; clear hown4 hg4 hgr4 hb4)
        go_roundw
        case rel =>
          refine ⟨k + 1, _, by omega, by go_num, ?_, ?_, NE4.out⟩
          · show BoxH _ _ _ _ _
            rw [TK.out, lastAll_snoc, LA.out]; exact B4.out.set 0 _
          · show World.ownsRow _ _ _ _ _ _ _
            refine own_eq (own_set O4.out NE4.out) ?_ ?_
            · rw [TK.out, encG_snoc, LA.out, US.out, EH.out, ← List.append_assoc, XS.out, List.length_append]; rfl
            · rw [TK.out, encG_snoc, LA.out, US.out, EH.out, ← List.append_assoc, XS.out, U32_app]; rfl
        case measure => simp [intOf]; omega
      · have k3 : (kind == 3) = false := by rw [beq_eq_false_iff_ne]; exact h3
        rw [if_neg h3, List.append_nil] at ES
        have EH := Lib.hid ES
        clear ES h3
        go_wp2
        go_roundw
        case rel =>
          refine ⟨k + 1, lv3, by omega, by go_num, ?_, ?_, NE3.out⟩
          · show BoxH _ _ _ _ _
            rw [TK.out, lastAll_snoc, LA.out]; exact B3.out
          · show World.ownsRow _ _ _ _ _ _ _
            rw [TK.out, encG_snoc, LA.out, US.out, EH.out]
            rw [List.append_assoc] at O3
            exact O3.out
        case measure => simp [intOf]; omega
    · obtain rfl : k = A.length := by omega
      rw [List.take_length] at hB hO
      have b0 := hB.out.cell 0
      have OO := Lib.hid hO.out
      go_wp2
      exact HR.out v _ (own_base OO.out G1.out.size) (G1.out.tr hB.out.grow)
end Go.Proofs.YtjalimkajcjapaaDoor

namespace Go.Proofs.YtjalimkajcjapaaDoor
open Go.RowKit B

set_option maxRecDepth 100000 in
set_option maxHeartbeats 2000000 in
theorem encode_err (kind : Int) (a : Value) (A : List PRow) (S S' : Nat → Prop) (w : World) (ha : Rd w S 1 a A.length (A.map PRow.v)) (hA : ∀ r ∈ A, r.rd w S') (hp : pright kind A ≠ 0) {R : Ending → World → Prop}
    (hR : ∀ w', Grow w w' → R (.returned (.tuple #[.slice none 0 0, .int .i64 (pright kind A)])) w') :
    Calls Tryd.prog 35 #[.int .i64 kind, a] w R := by
  have HR := Lib.hid hR
  clear hR
  have HA0 := Lib.hid ha
  have HA := Lib.hid hA
  have PR := Lib.hid fun (R : Ending → World → Prop) hR => pathRight_any kind a A S S' w ha hA (R := R) hR
  clear ha hA
  obtain ⟨n, hn⟩ : ∃ n, pright kind A = n := ⟨_, rfl⟩
  rw [hn] at hp HR PR
  have t1 : (n != 0) = true := by rw [bne_iff_ne]; exact hp
  clear hn hp
  go_enter Tryd.func35, Tryd.ntmps35
  go_wp2_with fail
  refine PR.out _ ?_
  intro w1 hg1
  go_wp2
  exact HR.out _ hg1

theorem pright_ok {kind : Int} {A : List PRow} (hp : pright kind A = 0) : (1 ≤ kind ∧ kind ≤ 3) ∧ A.length ≠ 0 ∧ (kind = 1 → A.length = 1) ∧ ∀ r ∈ A, kind ≤ (r.l.length : Int) ∧ ∀ x ∈ r.l, Near x := by
  unfold pright at hp
  split at hp
  · omega
  · rename_i h0
    split at hp
    · omega
    · rename_i h1
      split at hp
      · omega
      · rename_i h2
        split at hp
        · omega
        · rename_i h3
          refine ⟨by omega, fun h => h1 (.inl h), fun h => ?_, fun r hr => ⟨Int.not_lt.1 fun h => h2 ⟨r, hr, h⟩, fun x hx => ?_⟩⟩
          · have a1 : ¬ A.length = 0 := fun h => h1 (.inl h)
            have a2 : ¬ 1 < A.length := fun h' => h1 (.inr ⟨h, h'⟩)
            omega
          · have h4 : x.off = false := by
              cases ho : x.off with
              | false => rfl
              | true => exact absurd (List.any_eq_true.2 ⟨r, hr, List.any_eq_true.2 ⟨x, hx, ho⟩⟩) h3
            unfold Pt.off at h4
            rw [Bool.or_eq_false_iff, Bool.not_eq_false', Bool.not_eq_false'] at h4
            exact ⟨inm_iff.1 h4.1, inm_iff.1 h4.2⟩

set_option maxRecDepth 100000 in
set_option maxHeartbeats 2000000 in
theorem encode_one (l : List Pt) (a v : Value) (S S' : Nat → Prop) (w : World) (ha : Rd w S 1 a 1 [v]) (hA : Rd w S' 2 v l.length (Pts l)) (hpr : pright 1 [⟨v, l⟩] = 0) (hlen : l.length ≤ 1000) {R : Ending → World → Prop}
    (hR : ∀ r w', w'.ownsRow w.heap.size 72 1 r (((l.length : Int) * 8 + 1) :: putPts l ⟨0, 0⟩).length (U32 (((l.length : Int) * 8 + 1) :: putPts l ⟨0, 0⟩)) → Grow w w' → R (.returned (.tuple #[r, .int .i64 0])) w') :
    Calls Tryd.prog 35 #[.int .i64 1, a] w R := by
  have HR := Lib.hid hR
  clear hR
  have HN := Lib.hid ((pright_ok hpr).2.2.2 _ (List.mem_singleton.2 rfl)).2
  have HA := Lib.hid (ha.lt (by decide))
  have HV := Lib.hid (hA.lt (by decide))
  have HPR := Lib.hid hpr
  have HLEN := Lib.hid hlen
  clear hpr hlen
  obtain ⟨_, A, c, rfl, h1, h2, -, h4⟩ := ha
  unfold maxLen at h2
  obtain ⟨b, o, rfl, -, hc⟩ := h4 (by omega)
  have c0 := hc 0 v rfl
  have C0 : Hid (∀ W, Grow w W → W.cell? ⟨b, o, none⟩ = some v) := fun W hW => by
    have := (hW.cell (p := ⟨b, o + 0, none⟩) (World.block_lt_of_cell? w _ c0)).trans c0
    exact this
  clear hc h4 c0
  obtain ⟨_, V, cv, rfl, x1, x2, -, -⟩ := hA
  unfold maxLen at x2
  go_enter Tryd.func35, Tryd.ntmps35
  go_wp2_with fail
  refine pathRight_any 1 _ [⟨.slice V l.length cv, l⟩] _ _ w HA.out (fun r hr => by rw [List.mem_singleton.1 hr]; exact HV.out) ?_
  intro w1 hg1
  rw [HPR.out]
  have G1 := Lib.hid hg1
  clear hg1
  have BX := Lib.hid (BoxH.laid #[.slice none 0 0, .int .i64 0, .int .i64 0] 125 (Grow.refl w1))
  have d0 := C0.out _ (G1.out.al (.cells #[.slice none 0 0, .int .i64 0, .int .i64 0] 125))
  go_wp2_with fail
  refine wput_any 1 l (.slice V l.length cv) w1.heap.size (.slice none 0 0) [] ⟨0, 0⟩ w1.heap.size w1 _ BX.out (World.ownsRow_nil _ _ _ _) (by simp [Value.ownBlock]) ⟨Nat.le_refl _, by rw [World.size_alloc]; omega⟩ (HV.out.gr (by decide) G1.out |>.up G1.out.size) (by decide) HLEN.out (by simp) HN.out ⟨⟨by decide, by decide⟩, by decide, by decide⟩ ?_
  intro lv' w2 hB2 hO2 hne2 hg2
  have y0 := hB2.cell 0
  have O2 := Lib.hid hO2
  have B2 := Lib.hid hB2
  clear hB2 hO2 d0
  go_wp2
  refine HR.out lv' w2 (own_base (own_eq O2.out ?_ ?_) G1.out.size) (G1.out.tr hg2)
  · rw [List.nil_append]; rfl
  · rw [List.nil_append]; rfl

/-- path.Encode, of paths that may be -/
theorem encodeOk_any (kind : Int) (a : Value) (A : List PRow) (S S' : Nat → Prop) (w : World) (ha : Rd w S 1 a A.length (A.map PRow.v)) (hA : ∀ r ∈ A, r.rd w S') (hp : pright kind A = 0) (hle : (encS kind (A.map PRow.l)).length ≤ 1000) {R : Ending → World → Prop}
    (hR : ∀ v w', w'.ownsRow w.heap.size 72 1 v (encS kind (A.map PRow.l)).length (U32 (encS kind (A.map PRow.l))) → Grow w w' → R (.returned (.tuple #[v, .int .i64 0])) w') :
    Calls Tryd.prog 35 #[.int .i64 kind, a] w R := by
  obtain ⟨h1, h2, h3, h4⟩ := pright_ok hp
  cases A with
  | nil => exact absurd rfl h2
  | cons p ps =>
    by_cases hk : kind = 1
    · subst hk
      obtain rfl : ps = [] := by
        have := h3 rfl
        cases ps with
        | nil => rfl
        | cons q qs => simp at this
      obtain ⟨v, l⟩ := p
      simp only [List.map_cons, List.map_nil, encS, if_pos] at hle hR
      refine encode_one l a v S S' w ha (hA _ (List.mem_singleton.2 rfl)) hp ?_ hR
      rw [List.length_cons, putPts_len] at hle
      omega
    · simp only [List.map_cons, encS, if_neg hk] at hle hR
      exact encode_any kind a (p :: ps) S S' w (by omega) ha hA hp hle hR
end Go.Proofs.YtjalimkajcjapaaDoor

namespace Go.Proofs.YtjalimkajcjapaaDoor
open Go.RowKit B

/-- what stands ahead of point j -/
def hdP (kind : Int) (n j : Nat) : List Int := if j = 0 then (if kind = 1 then [(n : Int) * 8 + 1] else [9]) else if j = 1 ∧ kind ≠ 1 then [((n - 1 : Nat) : Int) * 8 + 2] else []
/-- the first j points of a path -/
def preE (kind : Int) (a : Pt) (p : List Pt) : Nat → List Int
  | 0 => []
  | j + 1 => preE kind a p j ++ hdP kind p.length j ++ [zig ((p.getD j ⟨0, 0⟩).x - (lastPt a (p.take j)).x), zig ((p.getD j ⟨0, 0⟩).y - (lastPt a (p.take j)).y)]
theorem putPts_take {p : List Pt} {j : Nat} (h : j < p.length) (a : Pt) : putPts (p.take (j + 1)) a = putPts (p.take j) a ++ [zig ((p.getD j ⟨0, 0⟩).x - (lastPt a (p.take j)).x), zig ((p.getD j ⟨0, 0⟩).y - (lastPt a (p.take j)).y)] := by
  rw [List.take_succ_eq_append_getElem h, putPts_snoc]
  simp [List.getD, List.getElem?_eq_getElem h]
theorem preE_one (a : Pt) (p : List Pt) : ∀ j, j < p.length → preE 1 a p (j + 1) = ((p.length : Int) * 8 + 1) :: putPts (p.take (j + 1)) a
  | 0, h => by
    rw [putPts_take h]
    simp [preE, hdP, putPts]
  | j + 1, h => by
    rw [putPts_take h]
    show preE 1 a p (j + 1) ++ hdP 1 p.length (j + 1) ++ _ = _
    rw [preE_one a p j (by omega)]
    simp [hdP]
theorem preE_more (kind : Int) (hk : kind ≠ 1) (a : Pt) (p : List Pt) : ∀ j, j + 1 < p.length → preE kind a p (j + 2) = 9 :: putPts (p.take 1) a ++ (((p.length - 1 : Nat) : Int) * 8 + 2) :: putPts ((p.drop 1).take (j + 1)) (lastPt a (p.take 1))
  | 0, h => by
    show (([] ++ hdP kind p.length 0 ++ _) ++ hdP kind p.length 1 ++ _) = _
    have e1 := putPts_take (p := p) (j := 0) (by omega) a
    have e2 := putPts_take (p := p.drop 1) (j := 0) (by rw [List.length_drop]; omega) (lastPt a (p.take 1))
    rw [Nat.zero_add] at e1 e2
    rw [e1, e2]
    simp [hdP, hk, putPts, lastPt, List.getD]
  | j + 1, h => by
    show preE kind a p (j + 2) ++ hdP kind p.length (j + 2) ++ _ = _
    rw [preE_more kind hk a p j (by omega)]
    have e2 := putPts_take (p := p.drop 1) (j := j + 1) (by rw [List.length_drop]; omega) (lastPt a (p.take 1))
    rw [e2]
    have e3 : lastPt (lastPt a (p.take 1)) ((p.drop 1).take (j + 1)) = lastPt a (p.take (j + 2)) := by
      have e5 : p.take (j + 2) = p.take 1 ++ (p.drop 1).take (j + 1) := by rw [show j + 2 = 1 + (j + 1) by omega]; exact List.take_add
      rw [lastPt_app, ← e5]
    have e4 : (p.drop 1).getD (j + 1) ⟨0, 0⟩ = p.getD (j + 2) ⟨0, 0⟩ := by simp [List.getD]
    rw [e3, e4]
    simp [hdP]
theorem preE_all {kind : Int} (hk : 2 ≤ kind) (a : Pt) (p : List Pt) (h : kind ≤ (p.length : Int)) : preE kind a p p.length ++ (if kind = 3 then [15] else []) = encP kind a p := by
  obtain ⟨j, hj⟩ : ∃ j, p.length = j + 2 := ⟨p.length - 2, by omega⟩
  have := preE_more kind (by omega) a p j (by omega)
  rw [← hj] at this
  rw [this]
  unfold encP
  rw [List.take_of_length_le (l := p.drop 1) (by rw [List.length_drop]; omega)]
theorem preE_all1 (a : Pt) (p : List Pt) (h : 1 ≤ p.length) : preE 1 a p p.length = ((p.length : Int) * 8 + 1) :: putPts p a := by
  obtain ⟨j, hj⟩ : ∃ j, p.length = j + 1 := ⟨p.length - 1, by omega⟩
  have := preE_one a p j (by omega)
  rw [← hj] at this
  rw [this, List.take_length]
theorem preE_len (kind : Int) (a : Pt) (p : List Pt) : ∀ j, (preE kind a p j).length ≤ 3 * j
  | 0 => by simp [preE]
  | j + 1 => by
    have := preE_len kind a p j
    have : (hdP kind p.length j).length ≤ 1 := by unfold hdP; split <;> (try split) <;> simp
    simp only [preE, List.length_append, List.length_cons, List.length_nil]
    omega

def encA (kind : Int) (a : Pt) (p : List Pt) : List Int := preE kind a p p.length ++ (if kind = 3 then [15] else [])
def encU (kind : Int) : Pt → List (List Pt) → List Int
  | _, [] => []
  | a, p :: ps => encA kind a p ++ encU kind (lastPt a p) ps
theorem encU_app (kind : Int) : ∀ (ps qs : List (List Pt)) (a : Pt), encU kind a (ps ++ qs) = encU kind a ps ++ encU kind (lastAll a ps) qs
  | [], qs, a => rfl
  | p :: ps, qs, a => by
    rw [List.cons_append, encU, encU, encU_app kind ps qs (lastPt a p), List.append_assoc]
    rfl
theorem encU_snoc (kind : Int) (ps : List (List Pt)) (p : List Pt) (a : Pt) : encU kind a (ps ++ [p]) = encU kind a ps ++ encA kind (lastAll a ps) p := by
  rw [encU_app]
  simp [encU]
theorem encU_take_len (kind : Int) (ps : List (List Pt)) (k : Nat) (a : Pt) : (encU kind a (ps.take k)).length ≤ (encU kind a ps).length := by
  have := encU_app kind (ps.take k) (ps.drop k) a
  rw [List.take_append_drop] at this
  rw [this, List.length_append]
  omega
theorem encU_G {kind : Int} (hk : 2 ≤ kind) : ∀ (ps : List (List Pt)) (a : Pt), (∀ p ∈ ps, kind ≤ (p.length : Int)) → encU kind a ps = encG kind a ps
  | [], _, _ => rfl
  | p :: ps, a, h => by
    rw [encU, encG_cons, encU_G hk ps _ (fun q hq => h q (by simp [hq])), ← preE_all hk a p (h p (by simp))]
    rfl
theorem encU_S {kind : Int} {ps : List (List Pt)} (hk : 1 ≤ kind) (h1 : kind = 1 → ps.length = 1) (h : ∀ p ∈ ps, kind ≤ (p.length : Int)) : encS kind ps = encU kind ⟨0, 0⟩ ps := by
  cases ps with
  | nil => rfl
  | cons p ps =>
    by_cases hk1 : kind = 1
    · subst hk1
      obtain rfl : ps = [] := by
        have := h1 rfl
        cases ps with
        | nil => rfl
        | cons q qs => simp at this
      simp only [encS, if_pos, encU, encA]
      rw [preE_all1 _ _ (by have := h p (by simp); omega)]
      simp
    · simp only [encS, if_neg hk1]
      exact (encU_G (by omega) _ _ h).symm
theorem preE_ge (kind : Int) (a : Pt) (p : List Pt) : ∀ j, 2 * j ≤ (preE kind a p j).length
  | 0 => by simp
  | j + 1 => by
    have := preE_ge kind a p j
    simp only [preE, List.length_append, List.length_cons, List.length_nil]
    omega
theorem encA_ge (kind : Int) (a : Pt) (p : List Pt) : 2 * p.length ≤ (encA kind a p).length := by
  have := preE_ge kind a p p.length
  unfold encA
  rw [List.length_append]
  omega

set_option maxRecDepth 100000 in
set_option maxHeartbeats 16000000 in
theorem rencode_any (kind : Int) (a : Value) (A : List PRow) (S S' : Nat → Prop) (w : World) (ha : Rd w S 1 a A.length (A.map PRow.v)) (hA : ∀ r ∈ A, r.rd w S') (hp : pright kind A = 0) (hle : (encS kind (A.map PRow.l)).length ≤ 1000) {R : Ending → World → Prop}
    (hR : ∀ v w', w'.ownsRow w.heap.size 72 1 v (encS kind (A.map PRow.l)).length (U32 (encS kind (A.map PRow.l))) → Grow w w' → R (.returned v) w') :
    Calls Tryd.prog 29 #[.int .i64 kind, a] w R := by
  obtain ⟨hk, hne, h1, hNR⟩ := pright_ok hp
  rw [encU_S hk.1 (by rw [List.length_map]; exact h1) (fun p hp => by obtain ⟨r, hr, rfl⟩ := List.mem_map.1 hp; exact (hNR r hr).1)] at hR hle
  have ha := ha.lt (by decide)
  have HA0 := Lib.hid ha
  have HA := Lib.hid fun r hr => (hA r hr : Rd _ _ _ _ _ _).lt (by decide)
  have HLE := Lib.hid hle
  have HNR := Lib.hid hNR
  have HR := Lib.hid hR
  obtain ⟨_, A0, c, rfl, h1', h2, h3, h4⟩ := ha
  unfold maxLen at h2
  have HK := Lib.hid hk
  clear hR hle hp hNR hA h3 hne h1 hk
  have BX := Lib.hid (BoxH.laid #[.int .i64 0, .int .i64 0] 115 (Grow.refl w))
  go_enter Tryd.func29, Tryd.ntmps29
  go_wp2
  generalize w.alloc (.cells #[.int .i64 0, .int .i64 0] 115) = wa at *
  go_loopw [5, 7] (fun s i wr => ∃ (k : Nat), k ≤ A.length ∧ i = .int .i64 k ∧ Hid (BoxH w w.heap.size #[.int .i64 (lastAll ⟨0, 0⟩ ((A.take k).map PRow.l)).x, .int .i64 (lastAll ⟨0, 0⟩ ((A.take k).map PRow.l)).y] 115 wr) ∧ Hid (wr.ownsRow w.heap.size 72 1 s (encU kind ⟨0, 0⟩ ((A.take k).map PRow.l)).length (U32 (encU kind ⟨0, 0⟩ ((A.take k).map PRow.l)))) ∧ Hid (s.ownBlock ≠ some w.heap.size)) (fun _ i _ => A.length - (intOf i).toNat)
  case atStart => exact ⟨0, Nat.zero_le _, rfl, BX.out, World.ownsRow_nil _ _ _ _, (by simp [Value.ownBlock] : (Value.slice none 0 0).ownBlock ≠ some w.heap.size)⟩
  case round =>
    clear BX
    obtain ⟨k, hk, rfl, hB, hO, hNE⟩ := hrel
    by_cases hlt : k < A.length
    · obtain ⟨b1, o1, rfl, -, -⟩ := h4 (by omega)
      have C1 : wr.cell? ⟨b1, o1 + k, none⟩ = some (A[k]'hlt).v := by
        have := rd_cell hB.out.grow HA0.out rfl (i := k) (by simpa using hlt)
        rw [List.getElem_map] at this
        exact this
      have r1 := HA.out (A[k]'hlt) (List.getElem_mem hlt)
      have NR := HNR.out (A[k]'hlt) (List.getElem_mem hlt)
      have TK : Hid ((A.take (k + 1)).map PRow.l = (A.take k).map PRow.l ++ [(A[k]'hlt).l]) := by
        show _ = _
        rw [List.take_succ_eq_append_getElem hlt, List.map_append]; rfl
      have NA : Hid (Near (lastAll ⟨0, 0⟩ ((A.take k).map PRow.l))) := lastAll_near ⟨⟨by decide, by decide⟩, by decide, by decide⟩ (fun p hp x hx => by
        obtain ⟨r, hr, rfl⟩ := List.mem_map.1 hp
        exact (HNR.out r (List.mem_of_mem_take hr)).2 x hx)
      have LE : Hid ((encU kind ⟨0, 0⟩ ((A.take (k + 1)).map PRow.l)).length ≤ 1000) := by
        show _ ≤ _
        rw [List.map_take]
        exact Nat.le_trans (encU_take_len _ _ _ _) HLE.out
      clear h4
      rw [TK.out, encU_snoc] at LE
      generalize (A.take k).map PRow.l = ps at *
      generalize A[k]'hlt = ra at *
      obtain ⟨v1, l1⟩ := ra
      dsimp only at *
      have RR := Lib.hid r1
      have hL1 : 1 ≤ l1.length := by have := NR.1; have := HK.out; omega
      have LEN : Hid ((encU kind ⟨0, 0⟩ ps).length ≤ 1000) := by
        show _ ≤ _
        have := LE.out
        rw [List.length_append] at this
        omega
      have hL2 : l1.length ≤ 1000 := by
        have := LE.out
        rw [List.length_append] at this
        have := encA_ge kind (lastAll ⟨0, 0⟩ ps) l1
        omega
      have NRH := Lib.hid NR.2
      have HKL := Lib.hid NR.1
      obtain ⟨_, X, cx, rfl, x1, x2, -, x4⟩ := r1
      obtain ⟨b3, o3, rfl, -, -⟩ := x4 (by omega)
      unfold maxLen at x2
      clear x4 NR
      obtain ⟨us, hus⟩ : ∃ us, encU kind ⟨0, 0⟩ ps = us := ⟨_, rfl⟩
      obtain ⟨at_, hat⟩ : ∃ at_, lastAll ⟨0, 0⟩ ps = at_ := ⟨_, rfl⟩
      rw [hus, hat] at LE
      rw [hus] at hO LEN
      rw [hat] at hB NA
      have US := Lib.hid hus
      have LA := Lib.hid hat
      clear hus hat
      go_wp2
      clear C1
      go_loopw [5, 9] (fun s j' wr => ∃ (j : Nat), j ≤ l1.length ∧ j' = .int .i64 j ∧ Hid (BoxH w w.heap.size #[.int .i64 (lastPt at_ (l1.take j)).x, .int .i64 (lastPt at_ (l1.take j)).y] 115 wr) ∧ Hid (wr.ownsRow w.heap.size 72 1 s (us ++ preE kind at_ l1 j).length (U32 (us ++ preE kind at_ l1 j))) ∧ Hid (s.ownBlock ≠ some w.heap.size)) (fun _ j' _ => l1.length - (intOf j').toNat)
      case atStart => exact ⟨0, Nat.zero_le _, rfl, hB.out, own_eq hO.out (by simp [preE]) (by simp [preE]), hNE.out⟩
      case round =>
        clear hB hO hNE
        obtain ⟨j, hj, rfl, hB, hO, hNE⟩ := hrel
        by_cases hjl : j < l1.length
        · have CD : Hid (∀ W, Grow w W → W.cell? ⟨b3, o3 + j * 2, none⟩ = some (.int .i64 l1[j].x) ∧ W.cell? ⟨b3, o3 + j * 2 + 1, none⟩ = some (.int .i64 l1[j].y)) := fun W hW => rd_cell2 hW RR.out hjl
          have hp := NRH.out l1[j] (List.getElem_mem hjl)
          have hq := lastPt_near NA.out (fun p hp => NRH.out p (List.mem_of_mem_take hp)) (l := l1.take j)
          have PJ : Hid (preE kind at_ l1 (j + 1) = preE kind at_ l1 j ++ hdP kind l1.length j ++ [zig (l1[j].x - (lastPt at_ (l1.take j)).x), zig (l1[j].y - (lastPt at_ (l1.take j)).y)]) := by
            show _ = _
            rw [preE]
            simp [List.getD, List.getElem?_eq_getElem hjl]
          have LP : Hid (lastPt at_ (l1.take (j + 1)) = l1[j]) := by
            show _ = _
            rw [List.take_succ_eq_append_getElem hjl]; exact lastPt_snoc _ _ _
          have LB : Hid ((us ++ preE kind at_ l1 j).length ≤ 4000) := by
            show _ ≤ _
            have := preE_len kind at_ l1 j
            have := LEN.out
            rw [List.length_append]
            omega
          obtain ⟨xs, hxs⟩ : ∃ xs, us ++ preE kind at_ l1 j = xs := ⟨_, rfl⟩
          rw [hxs] at hO LB
          have XS := Lib.hid hxs
          clear hxs
          generalize lastPt at_ (l1.take j) = q at *
          generalize l1[j] = p at *
          obtain ⟨p1, p2⟩ := p
          obtain ⟨q1, q2⟩ := q
          obtain ⟨hp1, hp2⟩ := hp
          obtain ⟨hq1, hq2⟩ := hq
          dsimp only at *
          have z1 := zig_near hp1 hq1
          have z2 := zig_near hp2 hq2
          have HZ1 := Lib.hid fun W (R : Ending → World → Prop) hR => rzig_any (p1 - q1) W (by unfold I64; omega) (R := R) hR
          have HZ2 := Lib.hid fun W (R : Ending → World → Prop) hR => rzig_any (p2 - q2) W (by unfold I64; omega) (R := R) hR
          have W1 : IntKind.i64.wrap (p1 - q1) = p1 - q1 := IntWalk.i64_in _ (by omega)
          have W2 : IntKind.i64.wrap (p2 - q2) = p2 - q2 := IntWalk.i64_in _ (by omega)
          generalize hzz1 : zig (p1 - q1) = Z1 at *
          generalize hzz2 : zig (p2 - q2) = Z2 at *
          clear hzz1 hzz2
          have W3 : IntKind.u32.wrap Z1 = Z1 := by rw [IntKind.wrap_u32]; omega
          have W4 : IntKind.u32.wrap Z2 = Z2 := by rw [IntKind.wrap_u32]; omega
          have W5 : Z1 % 4294967296 = Z1 := by omega
          have W6 : Z2 % 4294967296 = Z2 := by omega
          by_cases hj0 : j = 0
          · have t1 : ((j : Int) == 0) = true := by rw [beq_iff_eq]; omega
            by_cases hk1 : kind = 1
            · have t3 : (kind == 1) = true := by rw [beq_iff_eq]; exact hk1
              have HH : Hid (hdP kind l1.length j = [(l1.length : Int) * 8 + 1]) := by show _ = _; unfold hdP; rw [if_pos hj0, if_pos hk1]
              clear hk1 hj0
              go_wp2_with (at_builtin; refine wpList_new (w0 := w) rfl _ _ rfl el_u32 hO.out rfl 1 _ rfl (by decide) rfl (by simp [Value.oneCell']) (by have := LB.out; omega) hB.out.grow ⟨Nat.le_refl _, hB.out.grow.size⟩ ?_; intro v5 w5 hown5 hg5 hgr5 hb5; have O5 := Lib.hid (own_eq (ys := U32 (xs ++ [(l1.length : Int) * 8 + 1])) hown5 (show xs.length + 1 = (xs ++ [(l1.length : Int) * 8 + 1]).length by simp) (by rw [U32_app]; (show _ = _; simp [U32]; omega))); have B5 := Lib.hid (hB.out.by_ hgr5 (own_ge hO.out) (fun e => hNE.out e.symm)); have NE5 := Lib.hid (ins_ne hNE.out hB.out.lt hb5); clear hown5 hg5 hgr5 hb5)
              clear hO hB hNE
              refine wp_region_lexT (fun W => BoxH w w.heap.size #[.int .i64 q1, .int .i64 q2] 115 W) (B5.out.tr (Grow.refl _).dr) 22 [0, 1, 2, 3, 4, 5, 6, 7, 8, 11, 12, 13, 14, 15, 16, 17, 18, 9, 10, 19, 20, 21] (by kernel_rfl) (by kernel_rfl) (by intro c a d v w h; cases d <;> exact h) ?_
              iterate 17 (apply lext_take; exact rfl; exact rfl; (intro W hW; have y0 := hW.cell 0; have y1 := hW.cell 1; have d1 := (CD.out _ hW.grow).1; have d2 := (CD.out _ hW.grow).2; (try clear hW); go_simp; with_reducible rfl); try simp only [Act.put, List.setIfInBounds_toArray, List.set_cons_zero, List.set_cons_succ])
              have GG := Lib.hid (show BoxH w w.heap.size #[.int .i64 q1, .int .i64 q2] 115 (w5).drew from B5.out.tr (Grow.refl _).dr)
              have OO := Lib.hid (own_grow O5.out (Grow.refl _).dr)
              have HSZ : Hid ((w5).drew.heap.size = (w5).heap.size) := rfl
              clear O5 B5
              generalize (w5).drew = wd at *
              apply lext_turn; exact rfl; exact rfl; exact rfl; intro K hK; go_simp; go_at_call 53; refine HZ1.out _ _ ?_; refine hK.out _ _ GG.out ?_; clear hK
              try simp only [Act.put, List.setIfInBounds_toArray, List.set_cons_zero, List.set_cons_succ]
              iterate 1 (apply lext_take; exact rfl; exact rfl; (intro W hW; (try clear hW); go_simp; with_reducible rfl); try simp only [Act.put, List.setIfInBounds_toArray, List.set_cons_zero, List.set_cons_succ])
              apply lext_turn; exact rfl; exact rfl; exact rfl; intro K hK; go_simp; go_at_call 53; refine HZ2.out _ _ ?_; refine hK.out _ _ GG.out ?_; clear hK
              try simp only [Act.put, List.setIfInBounds_toArray, List.set_cons_zero, List.set_cons_succ]
              iterate 1 (apply lext_take; exact rfl; exact rfl; (intro W hW; (try clear hW); go_simp; with_reducible rfl); try simp only [Act.put, List.setIfInBounds_toArray, List.set_cons_zero, List.set_cons_succ])
              apply lext_turn; exact rfl; exact rfl; exact rfl; intro K hK; go_simp; refine hK.out _ _ (GG.out.tr ((Grow.refl _).al _)) ?_; clear hK; try simp only [Act.put, List.setIfInBounds_toArray, List.set_cons_zero, List.set_cons_succ]
              refine lext_nil ?_
              simp only [List.drop_succ_cons, List.drop_zero]
              refine wpList_new (w0 := w) rfl _ _ rfl el_u32 OO.out rfl 2 _ rfl (by decide) rfl (by simp [Value.oneCell']) (by have := LB.out; (try simp only [List.length_append, List.length_singleton]); omega) GG.out.grow ⟨Nat.le_refl _, GG.out.grow.size⟩ ?_
              intro v6 w6 hown6 hg6 hgr6 hb6; have O6 := Lib.hid hown6; have B6 := Lib.hid (GG.out.by_ hgr6 (own_ge OO.out) (fun e => NE5.out e.symm)); have NE6 := Lib.hid (ins_ne NE5.out GG.out.lt hb6); have e1 := (CD.out _ B6.out.grow).1; have e2 := (CD.out _ B6.out.grow).2; have b0 := B6.out.cell 0; have b1 := B6.out.cell 1; have f0 := B6.out.free 0; have f1 := (B6.out.set 0 (.int .i64 p1)).free 1; clear hown6 hg6 hgr6 hb6
              go_wp2
              have B7 : Hid (BoxH w w.heap.size #[.int .i64 p1, .int .i64 p2] 115 ((w6.setCell ⟨w.heap.size, 0, none⟩ (.int .i64 p1)).setCell ⟨w.heap.size, 1, none⟩ (.int .i64 p2))) := (B6.out.set 0 (.int .i64 p1)).set 1 (.int .i64 p2)
              have EX : us ++ preE kind at_ l1 (j + 1) = (xs ++ [(l1.length : Int) * 8 + 1]) ++ [Z1, Z2] := by rw [PJ.out, HH.out, ← XS.out]; simp
              go_roundw
              case rel =>
                refine ⟨j + 1, by omega, by go_num, ?_, ?_, NE6.out⟩
                · show BoxH _ _ _ _ _
                  rw [LP.out]; exact B7.out
                · show World.ownsRow _ _ _ _ _ _ _
                  rw [EX]
                  exact own_eq (own_set (own_set O6.out NE6.out) NE6.out) (by simp) (U32_app _ [Z1, Z2]).symm
              case measure => simp [intOf]; omega
            · have t3 : (kind == 1) = false := by rw [beq_eq_false_iff_ne]; exact hk1
              have HH : Hid (hdP kind l1.length j = [9]) := by show _ = _; unfold hdP; rw [if_pos hj0, if_neg hk1]
              have t4 : ((j : Int) == 1) = false := by rw [beq_eq_false_iff_ne]; omega
              clear hk1 hj0
              go_wp2_with (at_builtin; refine wpList_new (w0 := w) rfl _ _ rfl el_u32 hO.out rfl 1 _ rfl (by decide) rfl (by simp [Value.oneCell']) (by have := LB.out; omega) hB.out.grow ⟨Nat.le_refl _, hB.out.grow.size⟩ ?_; intro v5 w5 hown5 hg5 hgr5 hb5; have O5 := Lib.hid (own_eq (ys := U32 (xs ++ [(9 : Int)])) hown5 (show xs.length + 1 = (xs ++ [(9 : Int)]).length by simp) (by rw [U32_app]; rfl)); have B5 := Lib.hid (hB.out.by_ hgr5 (own_ge hO.out) (fun e => hNE.out e.symm)); have NE5 := Lib.hid (ins_ne hNE.out hB.out.lt hb5); clear hown5 hg5 hgr5 hb5)
              clear hO hB hNE
              refine wp_region_lexT (fun W => BoxH w w.heap.size #[.int .i64 q1, .int .i64 q2] 115 W) (B5.out.tr (Grow.refl _).dr) 22 [0, 1, 2, 3, 4, 5, 6, 7, 8, 11, 12, 13, 14, 15, 16, 17, 18, 9, 10, 19, 20, 21] (by kernel_rfl) (by kernel_rfl) (by intro c a d v w h; cases d <;> exact h) ?_
              iterate 17 (apply lext_take; exact rfl; exact rfl; (intro W hW; have y0 := hW.cell 0; have y1 := hW.cell 1; have d1 := (CD.out _ hW.grow).1; have d2 := (CD.out _ hW.grow).2; (try clear hW); go_simp; with_reducible rfl); try simp only [Act.put, List.setIfInBounds_toArray, List.set_cons_zero, List.set_cons_succ])
              have GG := Lib.hid (show BoxH w w.heap.size #[.int .i64 q1, .int .i64 q2] 115 (w5).drew from B5.out.tr (Grow.refl _).dr)
              have OO := Lib.hid (own_grow O5.out (Grow.refl _).dr)
              have HSZ : Hid ((w5).drew.heap.size = (w5).heap.size) := rfl
              clear O5 B5
              generalize (w5).drew = wd at *
              apply lext_turn; exact rfl; exact rfl; exact rfl; intro K hK; go_simp; go_at_call 53; refine HZ1.out _ _ ?_; refine hK.out _ _ GG.out ?_; clear hK
              try simp only [Act.put, List.setIfInBounds_toArray, List.set_cons_zero, List.set_cons_succ]
              iterate 1 (apply lext_take; exact rfl; exact rfl; (intro W hW; (try clear hW); go_simp; with_reducible rfl); try simp only [Act.put, List.setIfInBounds_toArray, List.set_cons_zero, List.set_cons_succ])
              apply lext_turn; exact rfl; exact rfl; exact rfl; intro K hK; go_simp; go_at_call 53; refine HZ2.out _ _ ?_; refine hK.out _ _ GG.out ?_; clear hK
              try simp only [Act.put, List.setIfInBounds_toArray, List.set_cons_zero, List.set_cons_succ]
              iterate 1 (apply lext_take; exact rfl; exact rfl; (intro W hW; (try clear hW); go_simp; with_reducible rfl); try simp only [Act.put, List.setIfInBounds_toArray, List.set_cons_zero, List.set_cons_succ])
              apply lext_turn; exact rfl; exact rfl; exact rfl; intro K hK; go_simp; refine hK.out _ _ (GG.out.tr ((Grow.refl _).al _)) ?_; clear hK; try simp only [Act.put, List.setIfInBounds_toArray, List.set_cons_zero, List.set_cons_succ]
              refine lext_nil ?_
              simp only [List.drop_succ_cons, List.drop_zero]
              refine wpList_new (w0 := w) rfl _ _ rfl el_u32 OO.out rfl 2 _ rfl (by decide) rfl (by simp [Value.oneCell']) (by have := LB.out; (try simp only [List.length_append, List.length_singleton]); omega) GG.out.grow ⟨Nat.le_refl _, GG.out.grow.size⟩ ?_
              intro v6 w6 hown6 hg6 hgr6 hb6; have O6 := Lib.hid hown6; have B6 := Lib.hid (GG.out.by_ hgr6 (own_ge OO.out) (fun e => NE5.out e.symm)); have NE6 := Lib.hid (ins_ne NE5.out GG.out.lt hb6); have e1 := (CD.out _ B6.out.grow).1; have e2 := (CD.out _ B6.out.grow).2; have b0 := B6.out.cell 0; have b1 := B6.out.cell 1; have f0 := B6.out.free 0; have f1 := (B6.out.set 0 (.int .i64 p1)).free 1; clear hown6 hg6 hgr6 hb6
              go_wp2
              have B7 : Hid (BoxH w w.heap.size #[.int .i64 p1, .int .i64 p2] 115 ((w6.setCell ⟨w.heap.size, 0, none⟩ (.int .i64 p1)).setCell ⟨w.heap.size, 1, none⟩ (.int .i64 p2))) := (B6.out.set 0 (.int .i64 p1)).set 1 (.int .i64 p2)
              have EX : us ++ preE kind at_ l1 (j + 1) = (xs ++ [(9 : Int)]) ++ [Z1, Z2] := by rw [PJ.out, HH.out, ← XS.out]; simp
              go_roundw
              case rel =>
                refine ⟨j + 1, by omega, by go_num, ?_, ?_, NE6.out⟩
                · show BoxH _ _ _ _ _
                  rw [LP.out]; exact B7.out
                · show World.ownsRow _ _ _ _ _ _ _
                  rw [EX]
                  exact own_eq (own_set (own_set O6.out NE6.out) NE6.out) (by simp) (U32_app _ [Z1, Z2]).symm
              case measure => simp [intOf]; omega
          · by_cases hj1 : j = 1
            · have t1 : ((j : Int) == 0) = false := by rw [beq_eq_false_iff_ne]; omega
              have t2 : ((j : Int) == 1) = true := by rw [beq_iff_eq]; omega
              by_cases hk1 : kind = 1
              · have t3 : (kind != 1) = false := by rw [bne_eq_false_iff_eq]; exact hk1
                have HH : Hid (hdP kind l1.length j = []) := by show _ = _; unfold hdP; rw [if_neg hj0, if_neg (by omega)]
                clear hk1 hj0 hj1
                go_wp2_with fail
                clear t1 t2 t3
                refine wp_region_lexT (fun W => BoxH w w.heap.size #[.int .i64 q1, .int .i64 q2] 115 W) (hB.out.tr (Grow.refl _).dr) 22 [0, 1, 2, 3, 4, 5, 6, 7, 8, 11, 12, 13, 14, 15, 16, 17, 18, 9, 10, 19, 20, 21] (by kernel_rfl) (by kernel_rfl) (by intro c a d v w h; cases d <;> exact h) ?_
                iterate 17 (apply lext_take; exact rfl; exact rfl; (intro W hW; have y0 := hW.cell 0; have y1 := hW.cell 1; have d1 := (CD.out _ hW.grow).1; have d2 := (CD.out _ hW.grow).2; (try clear hW); go_simp; with_reducible rfl); try simp only [Act.put, List.setIfInBounds_toArray, List.set_cons_zero, List.set_cons_succ])
                have GG := Lib.hid (show BoxH w w.heap.size #[.int .i64 q1, .int .i64 q2] 115 (wr).drew from hB.out.tr (Grow.refl _).dr)
                have OO := Lib.hid (own_grow hO.out (Grow.refl _).dr)
                have HSZ : Hid ((wr).drew.heap.size = (wr).heap.size) := rfl
                clear hO hB
                generalize (wr).drew = wd at *
                apply lext_turn; exact rfl; exact rfl; exact rfl; intro K hK; go_simp; go_at_call 53; refine HZ1.out _ _ ?_; refine hK.out _ _ GG.out ?_; clear hK
                try simp only [Act.put, List.setIfInBounds_toArray, List.set_cons_zero, List.set_cons_succ]
                iterate 1 (apply lext_take; exact rfl; exact rfl; (intro W hW; (try clear hW); go_simp; with_reducible rfl); try simp only [Act.put, List.setIfInBounds_toArray, List.set_cons_zero, List.set_cons_succ])
                apply lext_turn; exact rfl; exact rfl; exact rfl; intro K hK; go_simp; go_at_call 53; refine HZ2.out _ _ ?_; refine hK.out _ _ GG.out ?_; clear hK
                try simp only [Act.put, List.setIfInBounds_toArray, List.set_cons_zero, List.set_cons_succ]
                iterate 1 (apply lext_take; exact rfl; exact rfl; (intro W hW; (try clear hW); go_simp; with_reducible rfl); try simp only [Act.put, List.setIfInBounds_toArray, List.set_cons_zero, List.set_cons_succ])
                apply lext_turn; exact rfl; exact rfl; exact rfl; intro K hK; go_simp; refine hK.out _ _ (GG.out.tr ((Grow.refl _).al _)) ?_; clear hK; try simp only [Act.put, List.setIfInBounds_toArray, List.set_cons_zero, List.set_cons_succ]
                refine lext_nil ?_
                simp only [List.drop_succ_cons, List.drop_zero]
                refine wpList_new (w0 := w) rfl _ _ rfl el_u32 OO.out rfl 2 _ rfl (by decide) rfl (by simp [Value.oneCell']) (by have := LB.out; (try simp only [List.length_append, List.length_singleton]); omega) GG.out.grow ⟨Nat.le_refl _, GG.out.grow.size⟩ ?_
                intro v6 w6 hown6 hg6 hgr6 hb6; have O6 := Lib.hid hown6; have B6 := Lib.hid (GG.out.by_ hgr6 (own_ge OO.out) (fun e => hNE.out e.symm)); have NE6 := Lib.hid (ins_ne hNE.out GG.out.lt hb6); have e1 := (CD.out _ B6.out.grow).1; have e2 := (CD.out _ B6.out.grow).2; have b0 := B6.out.cell 0; have b1 := B6.out.cell 1; have f0 := B6.out.free 0; have f1 := (B6.out.set 0 (.int .i64 p1)).free 1; clear hown6 hg6 hgr6 hb6
                go_wp2
                have B7 : Hid (BoxH w w.heap.size #[.int .i64 p1, .int .i64 p2] 115 ((w6.setCell ⟨w.heap.size, 0, none⟩ (.int .i64 p1)).setCell ⟨w.heap.size, 1, none⟩ (.int .i64 p2))) := (B6.out.set 0 (.int .i64 p1)).set 1 (.int .i64 p2)
                have EX : us ++ preE kind at_ l1 (j + 1) = xs ++ [Z1, Z2] := by rw [PJ.out, HH.out, ← XS.out]; simp
                go_roundw
                case rel =>
                  refine ⟨j + 1, by omega, by go_num, ?_, ?_, NE6.out⟩
                  · show BoxH _ _ _ _ _
                    rw [LP.out]; exact B7.out
                  · show World.ownsRow _ _ _ _ _ _ _
                    rw [EX]
                    exact own_eq (own_set (own_set O6.out NE6.out) NE6.out) (by simp) (U32_app _ [Z1, Z2]).symm
                case measure => simp [intOf]; omega
              · have t3 : (kind != 1) = true := by rw [bne_iff_ne]; exact hk1
                have HH : Hid (hdP kind l1.length j = [((l1.length - 1 : Nat) : Int) * 8 + 2]) := by show _ = _; unfold hdP; rw [if_neg hj0, if_pos ⟨hj1, hk1⟩]
                clear hk1 hj0 hj1
                go_wp2_with (at_builtin; refine wpList_new (w0 := w) rfl _ _ rfl el_u32 hO.out rfl 1 _ rfl (by decide) rfl (by simp [Value.oneCell']) (by have := LB.out; omega) hB.out.grow ⟨Nat.le_refl _, hB.out.grow.size⟩ ?_; intro v5 w5 hown5 hg5 hgr5 hb5; have O5 := Lib.hid (own_eq (ys := U32 (xs ++ [((l1.length - 1 : Nat) : Int) * 8 + 2])) hown5 (show xs.length + 1 = (xs ++ [((l1.length - 1 : Nat) : Int) * 8 + 2]).length by simp) (by rw [U32_app]; (show _ = _; simp [U32]; omega))); have B5 := Lib.hid (hB.out.by_ hgr5 (own_ge hO.out) (fun e => hNE.out e.symm)); have NE5 := Lib.hid (ins_ne hNE.out hB.out.lt hb5); clear hown5 hg5 hgr5 hb5)
                clear hO hB hNE
                refine wp_region_lexT (fun W => BoxH w w.heap.size #[.int .i64 q1, .int .i64 q2] 115 W) (B5.out.tr (Grow.refl _).dr) 22 [0, 1, 2, 3, 4, 5, 6, 7, 8, 11, 12, 13, 14, 15, 16, 17, 18, 9, 10, 19, 20, 21] (by kernel_rfl) (by kernel_rfl) (by intro c a d v w h; cases d <;> exact h) ?_
                iterate 17 (apply lext_take; exact rfl; exact rfl; (intro W hW; have y0 := hW.cell 0; have y1 := hW.cell 1; have d1 := (CD.out _ hW.grow).1; have d2 := (CD.out _ hW.grow).2; (try clear hW); go_simp; with_reducible rfl); try simp only [Act.put, List.setIfInBounds_toArray, List.set_cons_zero, List.set_cons_succ])
                have GG := Lib.hid (show BoxH w w.heap.size #[.int .i64 q1, .int .i64 q2] 115 (w5).drew from B5.out.tr (Grow.refl _).dr)
                have OO := Lib.hid (own_grow O5.out (Grow.refl _).dr)
                have HSZ : Hid ((w5).drew.heap.size = (w5).heap.size) := rfl
                clear O5 B5
                generalize (w5).drew = wd at *
                apply lext_turn; exact rfl; exact rfl; exact rfl; intro K hK; go_simp; go_at_call 53; refine HZ1.out _ _ ?_; refine hK.out _ _ GG.out ?_; clear hK
                try simp only [Act.put, List.setIfInBounds_toArray, List.set_cons_zero, List.set_cons_succ]
                iterate 1 (apply lext_take; exact rfl; exact rfl; (intro W hW; (try clear hW); go_simp; with_reducible rfl); try simp only [Act.put, List.setIfInBounds_toArray, List.set_cons_zero, List.set_cons_succ])
                apply lext_turn; exact rfl; exact rfl; exact rfl; intro K hK; go_simp; go_at_call 53; refine HZ2.out _ _ ?_; refine hK.out _ _ GG.out ?_; clear hK
                try simp only [Act.put, List.setIfInBounds_toArray, List.set_cons_zero, List.set_cons_succ]
                iterate 1 (apply lext_take; exact rfl; exact rfl; (intro W hW; (try clear hW); go_simp; with_reducible rfl); try simp only [Act.put, List.setIfInBounds_toArray, List.set_cons_zero, List.set_cons_succ])
                apply lext_turn; exact rfl; exact rfl; exact rfl; intro K hK; go_simp; refine hK.out _ _ (GG.out.tr ((Grow.refl _).al _)) ?_; clear hK; try simp only [Act.put, List.setIfInBounds_toArray, List.set_cons_zero, List.set_cons_succ]
                refine lext_nil ?_
                simp only [List.drop_succ_cons, List.drop_zero]
                refine wpList_new (w0 := w) rfl _ _ rfl el_u32 OO.out rfl 2 _ rfl (by decide) rfl (by simp [Value.oneCell']) (by have := LB.out; (try simp only [List.length_append, List.length_singleton]); omega) GG.out.grow ⟨Nat.le_refl _, GG.out.grow.size⟩ ?_
                intro v6 w6 hown6 hg6 hgr6 hb6; have O6 := Lib.hid hown6; have B6 := Lib.hid (GG.out.by_ hgr6 (own_ge OO.out) (fun e => NE5.out e.symm)); have NE6 := Lib.hid (ins_ne NE5.out GG.out.lt hb6); have e1 := (CD.out _ B6.out.grow).1; have e2 := (CD.out _ B6.out.grow).2; have b0 := B6.out.cell 0; have b1 := B6.out.cell 1; have f0 := B6.out.free 0; have f1 := (B6.out.set 0 (.int .i64 p1)).free 1; clear hown6 hg6 hgr6 hb6
                go_wp2
                have B7 : Hid (BoxH w w.heap.size #[.int .i64 p1, .int .i64 p2] 115 ((w6.setCell ⟨w.heap.size, 0, none⟩ (.int .i64 p1)).setCell ⟨w.heap.size, 1, none⟩ (.int .i64 p2))) := (B6.out.set 0 (.int .i64 p1)).set 1 (.int .i64 p2)
                have EX : us ++ preE kind at_ l1 (j + 1) = (xs ++ [((l1.length - 1 : Nat) : Int) * 8 + 2]) ++ [Z1, Z2] := by rw [PJ.out, HH.out, ← XS.out]; simp
                go_roundw
                case rel =>
                  refine ⟨j + 1, by omega, by go_num, ?_, ?_, NE6.out⟩
                  · show BoxH _ _ _ _ _
                    rw [LP.out]; exact B7.out
                  · show World.ownsRow _ _ _ _ _ _ _
                    rw [EX]
                    exact own_eq (own_set (own_set O6.out NE6.out) NE6.out) (by simp) (U32_app _ [Z1, Z2]).symm
                case measure => simp [intOf]; omega
            · have t1 : ((j : Int) == 0) = false := by rw [beq_eq_false_iff_ne]; omega
              have t2 : ((j : Int) == 1) = false := by rw [beq_eq_false_iff_ne]; omega
              have HH : Hid (hdP kind l1.length j = []) := by show _ = _; unfold hdP; rw [if_neg hj0, if_neg (by omega)]
              clear hj0 hj1
              go_wp2_with fail
              clear t1 t2
              refine wp_region_lexT (fun W => BoxH w w.heap.size #[.int .i64 q1, .int .i64 q2] 115 W) (hB.out.tr (Grow.refl _).dr) 22 [0, 1, 2, 3, 4, 5, 6, 7, 8, 11, 12, 13, 14, 15, 16, 17, 18, 9, 10, 19, 20, 21] (by kernel_rfl) (by kernel_rfl) (by intro c a d v w h; cases d <;> exact h) ?_
              iterate 17 (apply lext_take; exact rfl; exact rfl; (intro W hW; have y0 := hW.cell 0; have y1 := hW.cell 1; have d1 := (CD.out _ hW.grow).1; have d2 := (CD.out _ hW.grow).2; (try clear hW); go_simp; with_reducible rfl); try simp only [Act.put, List.setIfInBounds_toArray, List.set_cons_zero, List.set_cons_succ])
              have GG := Lib.hid (show BoxH w w.heap.size #[.int .i64 q1, .int .i64 q2] 115 (wr).drew from hB.out.tr (Grow.refl _).dr)
              have OO := Lib.hid (own_grow hO.out (Grow.refl _).dr)
              have HSZ : Hid ((wr).drew.heap.size = (wr).heap.size) := rfl
              clear hO hB
              generalize (wr).drew = wd at *
              apply lext_turn; exact rfl; exact rfl; exact rfl; intro K hK; go_simp; go_at_call 53; refine HZ1.out _ _ ?_; refine hK.out _ _ GG.out ?_; clear hK
              try simp only [Act.put, List.setIfInBounds_toArray, List.set_cons_zero, List.set_cons_succ]
              iterate 1 (apply lext_take; exact rfl; exact rfl; (intro W hW; (try clear hW); go_simp; with_reducible rfl); try simp only [Act.put, List.setIfInBounds_toArray, List.set_cons_zero, List.set_cons_succ])
              apply lext_turn; exact rfl; exact rfl; exact rfl; intro K hK; go_simp; go_at_call 53; refine HZ2.out _ _ ?_; refine hK.out _ _ GG.out ?_; clear hK
              try simp only [Act.put, List.setIfInBounds_toArray, List.set_cons_zero, List.set_cons_succ]
              iterate 1 (apply lext_take; exact rfl; exact rfl; (intro W hW; (try clear hW); go_simp; with_reducible rfl); try simp only [Act.put, List.setIfInBounds_toArray, List.set_cons_zero, List.set_cons_succ])
              apply lext_turn; exact rfl; exact rfl; exact rfl; intro K hK; go_simp; refine hK.out _ _ (GG.out.tr ((Grow.refl _).al _)) ?_; clear hK; try simp only [Act.put, List.setIfInBounds_toArray, List.set_cons_zero, List.set_cons_succ]
              refine lext_nil ?_
              simp only [List.drop_succ_cons, List.drop_zero]
              refine wpList_new (w0 := w) rfl _ _ rfl el_u32 OO.out rfl 2 _ rfl (by decide) rfl (by simp [Value.oneCell']) (by have := LB.out; (try simp only [List.length_append, List.length_singleton]); omega) GG.out.grow ⟨Nat.le_refl _, GG.out.grow.size⟩ ?_
              intro v6 w6 hown6 hg6 hgr6 hb6; have O6 := Lib.hid hown6; have B6 := Lib.hid (GG.out.by_ hgr6 (own_ge OO.out) (fun e => hNE.out e.symm)); have NE6 := Lib.hid (ins_ne hNE.out GG.out.lt hb6); have e1 := (CD.out _ B6.out.grow).1; have e2 := (CD.out _ B6.out.grow).2; have b0 := B6.out.cell 0; have b1 := B6.out.cell 1; have f0 := B6.out.free 0; have f1 := (B6.out.set 0 (.int .i64 p1)).free 1; clear hown6 hg6 hgr6 hb6
              go_wp2
              have B7 : Hid (BoxH w w.heap.size #[.int .i64 p1, .int .i64 p2] 115 ((w6.setCell ⟨w.heap.size, 0, none⟩ (.int .i64 p1)).setCell ⟨w.heap.size, 1, none⟩ (.int .i64 p2))) := (B6.out.set 0 (.int .i64 p1)).set 1 (.int .i64 p2)
              have EX : us ++ preE kind at_ l1 (j + 1) = xs ++ [Z1, Z2] := by rw [PJ.out, HH.out, ← XS.out]; simp
              go_roundw
              case rel =>
                refine ⟨j + 1, by omega, by go_num, ?_, ?_, NE6.out⟩
                · show BoxH _ _ _ _ _
                  rw [LP.out]; exact B7.out
                · show World.ownsRow _ _ _ _ _ _ _
                  rw [EX]
                  exact own_eq (own_set (own_set O6.out NE6.out) NE6.out) (by simp) (U32_app _ [Z1, Z2]).symm
              case measure => simp [intOf]; omega
        · obtain rfl : j = l1.length := by omega
          rw [List.take_length] at hB
          have LA1 : Hid (us ++ preE kind at_ l1 l1.length ++ (if kind = 3 then [15] else []) = us ++ encA kind at_ l1) := by show _ = _; unfold encA; rw [List.append_assoc]
          have LE1 : Hid ((us ++ encA kind at_ l1).length ≤ 1000) := LE.out
          obtain ⟨xs, hxs⟩ : ∃ xs, us ++ preE kind at_ l1 l1.length = xs := ⟨_, rfl⟩
          rw [hxs] at hO LA1
          clear hxs LE
          by_cases h3 : kind = 3
          · have k3 : (kind == 3) = true := by rw [beq_iff_eq]; exact h3
            have LA2 : Hid (xs ++ [15] = us ++ encA kind at_ l1) := by have := LA1.out; rw [if_pos h3] at this; exact this
            have LB : Hid (xs.length ≤ 1000) := by
              show _ ≤ _
              have := LE1.out
              rw [← LA2.out, List.length_append] at this
              omega
            clear h3 LA1
            go_wp2_with (at_builtin; refine wpList_new (w0 := w) rfl _ _ rfl el_u32 hO.out rfl 1 _ rfl (by decide) rfl (by simp [Value.oneCell']) (by have := LB.out; omega) hB.out.grow ⟨Nat.le_refl _, hB.out.grow.size⟩ ?_; intro v5 w5 hown5 hg5 hgr5 hb5; have O5 := Lib.hid hown5; have B5 := Lib.hid (hB.out.by_ hgr5 (own_ge hO.out) (fun e => hNE.out e.symm)); have NE5 := Lib.hid (ins_ne hNE.out hB.out.lt hb5); clear hown5 hg5 hgr5 hb5)
            go_roundw
            case rel =>
              refine ⟨k + 1, by omega, by go_num, ?_, ?_, NE5.out⟩
              · show BoxH _ _ _ _ _
                rw [TK.out, lastAll_snoc, LA.out]; exact B5.out
              · show World.ownsRow _ _ _ _ _ _ _
                refine own_eq O5.out ?_ ?_
                · rw [TK.out, encU_snoc, LA.out, US.out, ← LA2.out, List.length_append]; rfl
                · rw [TK.out, encU_snoc, LA.out, US.out, ← LA2.out, U32_app]; rfl
            case measure => simp [intOf]; omega
          · have k3 : (kind == 3) = false := by rw [beq_eq_false_iff_ne]; exact h3
            have LA2 : Hid (xs = us ++ encA kind at_ l1) := by have := LA1.out; rw [if_neg h3, List.append_nil] at this; exact this
            have O5 := Lib.hid hO.out
            clear h3 LA1
            go_wp2
            go_roundw
            case rel =>
              refine ⟨k + 1, by omega, by go_num, ?_, ?_, hNE.out⟩
              · show BoxH _ _ _ _ _
                rw [TK.out, lastAll_snoc, LA.out]; exact hB.out
              · show World.ownsRow _ _ _ _ _ _ _
                rw [TK.out, encU_snoc, LA.out, US.out, ← LA2.out]; exact O5.out
            case measure => simp [intOf]; omega
    · obtain rfl : k = A.length := by omega
      rw [List.take_length] at hB hO
      have OO := Lib.hid hO.out
      go_wp2
      exact HR.out _ _ OO.out hB.out.grow
end Go.Proofs.YtjalimkajcjapaaDoor
