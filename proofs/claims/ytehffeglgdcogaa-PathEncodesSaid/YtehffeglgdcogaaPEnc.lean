/-
  path.Encode.
-/
import Derived.Test.YtehffeglgdcogaaChecked
import Derived.Test.YtehffeglgdcogaaPathP
import Derived.Test.YtehffeglgdcogaaPPut
import Derived.Test.YtehffeglgdcogaaPRight2
namespace Go.Proofs.Ytehffeglgdcogaa
open Go.RowKit B

def lastAll (a : Pt) (ps : List (List Pt)) : Pt := ps.foldl lastPt a
def encP (kind : Int) (a : Pt) (p : List Pt) : List Int := 9 :: putPts (p.take 1) a ++ (((p.length - 1 : Nat) : Int) * 8 + 2) :: putPts (p.drop 1) (lastPt a (p.take 1)) ++ (if kind = 3 then [15] else [])
theorem lastAll_snoc (a : Pt) (ps : List (List Pt)) (p : List Pt) : lastAll a (ps ++ [p]) = lastPt (lastAll a ps) p := by simp [lastAll]
theorem encG_cons (kind : Int) (a : Pt) (p : List Pt) (ps : List (List Pt)) : encG kind a (p :: ps) = encP kind a p ++ encG kind (lastPt a p) ps := by simp [encG, encP]
theorem encG_app (kind : Int) : ∀ (ps qs : List (List Pt)) (a : Pt), encG kind a (ps ++ qs) = encG kind a ps ++ encG kind (lastAll a ps) qs
  | [], qs, a => rfl
  | p :: ps, qs, a => by
    rw [List.cons_append, encG_cons, encG_cons, encG_app kind ps qs (lastPt a p), List.append_assoc]
    rfl
theorem encG_snoc (kind : Int) (ps : List (List Pt)) (p : List Pt) (a : Pt) : encG kind a (ps ++ [p]) = encG kind a ps ++ encP kind (lastAll a ps) p := by
  rw [encG_app, encG_cons]
  simp [encG]
theorem encG_take_len (kind : Int) (ps : List (List Pt)) (k : Nat) (a : Pt) : (encG kind a (ps.take k)).length ≤ (encG kind a ps).length := by
  have := encG_app kind (ps.take k) (ps.drop k) a
  rw [List.take_append_drop] at this
  rw [this, List.length_append]
  omega
theorem encP_len (kind : Int) (a : Pt) (p : List Pt) : p.length ≤ (encP kind a p).length := by
  simp only [encP, List.length_append, List.length_cons, putPts_len, List.length_drop, List.length_take]
  omega
theorem lastAll_near {a : Pt} : ∀ {ps : List (List Pt)}, Near a → (∀ p ∈ ps, ∀ x ∈ p, Near x) → Near (lastAll a ps) := by
  intro ps
  induction ps generalizing a with
  | nil => intro ha _; exact ha
  | cons p ps ih => intro ha h; exact ih (a := lastPt a p) (lastPt_near ha (h p (by simp))) (fun q hq => h q (by simp [hq]))
theorem encP_split (kind : Int) (a : Pt) (p : List Pt) (h : 1 ≤ p.length) : encP kind a p = ((((p.take 1).length * 8 + 1 : Nat) : Int) :: putPts (p.take 1) a ++ (((p.drop 1).length * 8 + 2 : Nat) : Int) :: putPts (p.drop 1) (lastPt a (p.take 1))) ++ (if kind = 3 then [15] else []) := by
  unfold encP
  rw [List.length_take, List.length_drop, Nat.min_eq_left h]
  congr 3
theorem lastPt_split (a : Pt) (p : List Pt) : lastPt (lastPt a (p.take 1)) (p.drop 1) = lastPt a p := by rw [lastPt_app, List.take_append_drop]

theorem Rd.sub2 {w : World} {S : Nat → Prop} {b o c : Nat} {l : List Pt} (h : Rd w S 2 (.slice (some ⟨b, o, none⟩) l.length c) l.length (Pts l)) (hl : 1 ≤ l.length) :
    Rd w S 2 (.slice (some ⟨b, o, none⟩) 1 c) (l.take 1).length (Pts (l.take 1)) := by
  obtain ⟨_, A', c', hv, h1, h2, h3, h4⟩ := h
  injection hv with e1 _ e2
  subst e1 e2
  have e : (l.take 1).length = 1 := by rw [List.length_take]; omega
  refine ⟨Pts_len _, _, _, by rw [e], by omega, h2, h3, fun _ => ?_⟩
  obtain ⟨b', o', hb, hS, hc⟩ := h4 (by omega)
  refine ⟨b', o', hb, hS, fun j u hu => hc j u ?_⟩
  have : Pts l = Pts (l.take 1) ++ Pts (l.drop 1) := by rw [← Pts_app, List.take_append_drop]
  rw [this]
  have hj : j < (Pts (l.take 1)).length := (List.getElem?_eq_some_iff.1 hu).1
  rw [List.getElem?_append_left hj]
  exact hu

theorem Rd.rest2 {w : World} {S : Nat → Prop} {b o c : Nat} {l : List Pt} (h : Rd w S 2 (.slice (some ⟨b, o, none⟩) l.length c) l.length (Pts l)) (hl : 1 ≤ l.length) :
    Rd w S 2 (.slice (some ⟨b, o + 2, none⟩) (l.length - 1) (c - 1)) (l.drop 1).length (Pts (l.drop 1)) := by
  obtain ⟨_, A', c', hv, h1, h2, h3, h4⟩ := h
  injection hv with e1 _ e2
  subst e1 e2
  have e : (l.drop 1).length = l.length - 1 := List.length_drop
  refine ⟨Pts_len _, _, _, by rw [e], by rw [e]; omega, by omega, (fun h => by cases h), fun _ => ?_⟩
  obtain ⟨b', o', hb, hS, hc⟩ := h4 (by omega)
  injection hb with hb
  injection hb with hb1 hb2
  subst hb1 hb2
  refine ⟨b, o + 2, rfl, hS, fun j u hu => ?_⟩
  have := hc (2 + j) u (by
    have e2 : Pts l = Pts (l.take 1) ++ Pts (l.drop 1) := by rw [← Pts_app, List.take_append_drop]
    rw [e2, List.getElem?_append_right (by rw [Pts_len, List.length_take]; omega), Pts_len, List.length_take, Nat.min_eq_left hl, ← hu]
    congr 1
    omega)
  rw [show o + 2 + j = o + (2 + j) by omega]
  exact this

set_option maxRecDepth 100000 in
set_option maxHeartbeats 8000000 in
theorem encode_any (kind : Int) (a : Value) (A : List PRow) (S S' : Nat → Prop) (w : World) (hk : 2 ≤ kind ∧ kind ≤ 3) (ha : Rd w S 1 a A.length (A.map PRow.v)) (hA : ∀ r ∈ A, r.rd w S') (hp : pright kind A = 0) (hle : (encG kind ⟨0, 0⟩ (A.map PRow.l)).length ≤ 1000) {R : Ending → World → Prop}
    (hR : ∀ v w', w'.ownsRow w.heap.size 78 1 v (encG kind ⟨0, 0⟩ (A.map PRow.l)).length (U32 (encG kind ⟨0, 0⟩ (A.map PRow.l))) → Grow w w' → R (.returned (.tuple #[v, .int .i64 0])) w') :
    Calls Try.prog 38 #[.int .i64 kind, a] w R := by
  have HR := Lib.hid hR
  have ha := ha.lt (by decide)
  have HA0 := Lib.hid ha
  have HA := Lib.hid fun r hr => (hA r hr : Rd _ _ _ _ _ _).lt (by decide)
  have HLE := Lib.hid hle
  have HP := Lib.hid hp
  have hNR : ∀ r ∈ A, kind ≤ (r.l.length : Int) ∧ ∀ x ∈ r.l, Near x := by
    unfold pright at hp
    rw [if_neg (by omega)] at hp
    split at hp
    · omega
    · split at hp
      · omega
      · rename_i h1 h2
        split at hp
        · omega
        · rename_i h3
          intro r hr
          refine ⟨Int.not_lt.1 fun h => h2 ⟨r, hr, h⟩, fun x hx => ?_⟩
          have h4 : x.off = false := by
            cases ho : x.off with
            | false => rfl
            | true => exact absurd (List.any_eq_true.2 ⟨r, hr, List.any_eq_true.2 ⟨x, hx, ho⟩⟩) h3
          unfold Pt.off at h4
          rw [Bool.or_eq_false_iff, Bool.not_eq_false', Bool.not_eq_false'] at h4
          exact ⟨inm_iff.1 h4.1, inm_iff.1 h4.2⟩
  have HNR := Lib.hid hNR
  have k1 : (kind == 1) = false := by rw [beq_eq_false_iff_ne]; omega
  obtain ⟨_, A0, c, rfl, h1, h2, h3, h4⟩ := ha
  unfold maxLen at h2
  clear hR hle hp hNR hA h3
  have HK := Lib.hid hk
  clear hk
  go_enter Try.func38, Try.ntmps38
  go_wp2_with fail
  refine pathRight_any kind _ A _ _ w HA0.out HA.out ?_
  intro w1 hg1
  rw [HP.out]
  have G1 := Lib.hid hg1
  clear hg1
  have BX := Lib.hid (BoxH.laid #[.slice none 0 0, .int .i64 0, .int .i64 0] 94 (Grow.refl w1))
  go_wp2
  clear k1
  generalize w1.alloc (.cells #[.slice none 0 0, .int .i64 0, .int .i64 0] 94) = wa at *
  go_loopw [31] (fun i wr => ∃ (k : Nat) (v : Value), k ≤ A.length ∧ i = .int .i64 k ∧ Hid (BoxH w1 w1.heap.size #[v, .int .i64 (lastAll ⟨0, 0⟩ ((A.take k).map PRow.l)).x, .int .i64 (lastAll ⟨0, 0⟩ ((A.take k).map PRow.l)).y] 94 wr) ∧ Hid (wr.ownsRow w1.heap.size 78 1 v (encG kind ⟨0, 0⟩ ((A.take k).map PRow.l)).length (U32 (encG kind ⟨0, 0⟩ ((A.take k).map PRow.l)))) ∧ Hid (v.ownBlock ≠ some w1.heap.size)) (fun i _ => A.length - (intOf i).toNat)
  case atStart => exact ⟨0, _, Nat.zero_le _, rfl, BX.out, World.ownsRow_nil _ _ _ _, (by simp [Value.ownBlock] : (Value.slice none 0 0).ownBlock ≠ some w1.heap.size)⟩
  case round =>
    clear BX
    obtain ⟨k, v, hk, rfl, hB, hO, hNE⟩ := hrel
    by_cases hlt : k < A.length
    · obtain ⟨b1, o1, rfl, -, -⟩ := h4 (by omega)
      have C1 : wr.cell? ⟨b1, o1 + k, none⟩ = some (A[k]'hlt).v := by
        have := rd_cell (G1.out.tr hB.out.grow) HA0.out rfl (i := k) (by simpa using hlt)
        rw [List.getElem_map] at this
        exact this
      have r1 := HA.out (A[k]'hlt) (List.getElem_mem hlt)
      have NR := HNR.out (A[k]'hlt) (List.getElem_mem hlt)
      have TK : Hid ((A.take (k + 1)).map PRow.l = (A.take k).map PRow.l ++ [(A[k]'hlt).l]) := by
        show _ = _
        rw [List.take_succ_eq_append_getElem hlt, List.map_append]; rfl
      have NA : Hid (Near (lastAll ⟨0, 0⟩ ((A.take k).map PRow.l))) := lastAll_near ⟨⟨by decide, by decide⟩, by decide, by decide⟩ (fun p hp x hx => by
        obtain ⟨r, hr, rfl⟩ := List.mem_map.1 hp
        exact (HNR.out r (List.mem_of_mem_take hr)).2 x hx)
      have LE : Hid ((encG kind ⟨0, 0⟩ ((A.take (k + 1)).map PRow.l)).length ≤ 1000) := by
        show _ ≤ _
        rw [List.map_take]
        exact Nat.le_trans (encG_take_len _ _ _ _) HLE.out
      clear h4
      rw [TK.out, encG_snoc] at LE
      generalize (A.take k).map PRow.l = ps at *
      generalize A[k]'hlt = ra at *
      obtain ⟨v1, l1⟩ := ra
      dsimp only at *
      have RR := Lib.hid ((r1.gr2 (by decide) G1.out).up G1.out.size)
      have hL1 : 2 ≤ l1.length := by have := NR.1; have := HK.out; omega
      have LEN : Hid ((encG kind ⟨0, 0⟩ ps).length + l1.length ≤ 1000) := by
        show _ ≤ _
        have := LE.out
        rw [List.length_append] at this
        have := encP_len kind (lastAll ⟨0, 0⟩ ps) l1
        omega
      have NRH := Lib.hid NR.2
      obtain ⟨_, X, cx, rfl, x1, x2, -, x4⟩ := r1
      obtain ⟨b3, o3, rfl, -, -⟩ := x4 (by omega)
      unfold maxLen at x2
      have hcx : ¬ cx = 1 := by omega
      clear x4 NR
      obtain ⟨us, hus⟩ : ∃ us, encG kind ⟨0, 0⟩ ps = us := ⟨_, rfl⟩
      obtain ⟨at_, hat⟩ : ∃ at_, lastAll ⟨0, 0⟩ ps = at_ := ⟨_, rfl⟩
      rw [hus, hat] at LE
      rw [hus] at hO LEN
      rw [hat] at hB NA
      have US := Lib.hid hus
      have LA := Lib.hid hat
      clear hus hat
      go_wp2_with fail
      refine wput_any 1 (l1.take 1) _ w1.heap.size v us at_ w1.heap.size w1 wr hB.out hO.out hNE.out ⟨Nat.le_refl _, hB.out.grow.size⟩ (Rd.sub2 RR.out (by omega)) (by decide) (by rw [List.length_take]; omega) (by have := LEN.out; omega) (fun p hp => NRH.out p (List.mem_of_mem_take hp)) NA.out ?_
      intro lv2 w2 hB2 hO2 hNE2 hg2
      have B2 := Lib.hid hB2
      have O2 := Lib.hid hO2
      have NE2 := Lib.hid hNE2
      clear hB2 hO2 hNE2 hg2 hB hO hNE C1
      go_wp2_with fail
      refine wput_any 2 (l1.drop 1) _ w1.heap.size lv2 (us ++ (((l1.take 1).length * 8 + 1 : Nat) : Int) :: putPts (l1.take 1) at_) (lastPt at_ (l1.take 1)) w1.heap.size w1 w2 B2.out O2.out NE2.out ⟨Nat.le_refl _, B2.out.grow.size⟩ (Rd.rest2 RR.out (by omega)) (by decide) (by rw [List.length_drop]; have := LEN.out; omega) (by rw [List.length_append, List.length_cons, putPts_len, List.length_take]; have := LEN.out; omega) (fun p hp => NRH.out p (List.mem_of_mem_drop hp)) (lastPt_near NA.out (fun p hp => NRH.out p (List.mem_of_mem_take hp))) ?_
      intro lv3 w3 hB3 hO3 hNE3 hg3
      rw [lastPt_split] at hB3
      have B3 := Lib.hid hB3
      have ES := encP_split kind at_ l1 (by omega)
      have NE3 := Lib.hid hNE3
      have O3 : Hid (w3.ownsRow w1.heap.size 78 1 lv3 _ _) := hO3
      clear hB3 hO3 hNE3 hg3 B2 O2 NE2
      by_cases h3 : kind = 3
      · have k3 : (kind == 3) = true := by rw [beq_iff_eq]; exact h3
        rw [if_pos h3] at ES
        obtain ⟨F, hF⟩ : ∃ F, ((((l1.take 1).length * 8 + 1 : Nat) : Int) :: putPts (l1.take 1) at_ ++ (((l1.drop 1).length * 8 + 2 : Nat) : Int) :: putPts (l1.drop 1) (lastPt at_ (l1.take 1))) = F := ⟨_, rfl⟩
        rw [hF] at ES
        have O3' := O3.out
        rw [List.append_assoc, hF] at O3'
        have O3 := Lib.hid O3'
        have EH := Lib.hid ES
        have LEF : Hid ((us ++ F).length ≤ 1000) := by
          show _ ≤ _
          have := LE.out
          rw [ES] at this
          simp only [List.length_append, List.length_singleton] at this ⊢
          omega
        clear ES h3 hF O3'
        generalize hxs : us ++ F = xs3 at *
        have XS := Lib.hid hxs
        clear hxs
        have y0 := B3.out.cell 0
        go_wp2_with (at_builtin; refine wpList_new (w0 := w1) rfl _ _ rfl el_u32 O3.out rfl 1 _ rfl (by decide) rfl (by simp [Value.oneCell']) (by have := LEF.out; omega) B3.out.grow ⟨Nat.le_refl _, B3.out.grow.size⟩ ?_; intro v4 w4 hown4 hg4 hgr4 hb4; obtain ⟨X4, cc4, hv4⟩ := own_slice hown4; subst hv4; have O4 := Lib.hid hown4; have B4 := Lib.hid (B3.out.by_ hgr4 (own_ge O3.out) (fun e => NE3.out e.symm)); have NE4 := Lib.hid (ins_ne NE3.out B3.out.lt hb4); have p4 := B4.out.cell 0; have f4 := B4.out.free 0; clear hown4 hg4 hgr4 hb4)
        go_roundw
        case rel =>
          refine ⟨k + 1, _, by omega, by go_num, ?_, ?_, NE4.out⟩
          · show BoxH _ _ _ _ _
            rw [TK.out, lastAll_snoc, LA.out]; exact B4.out.set 0 _
          · show World.ownsRow _ _ _ _ _ _ _
            refine own_eq (own_set O4.out NE4.out) ?_ ?_
            · rw [TK.out, encG_snoc, LA.out, US.out, EH.out, ← List.append_assoc, XS.out, List.length_append]; rfl
            · rw [TK.out, encG_snoc, LA.out, US.out, EH.out, ← List.append_assoc, XS.out, U32_app]; rfl
        case measure => simp [intOf]; omega
      · have k3 : (kind == 3) = false := by rw [beq_eq_false_iff_ne]; exact h3
        rw [if_neg h3, List.append_nil] at ES
        have EH := Lib.hid ES
        clear ES h3
        go_wp2
        go_roundw
        case rel =>
          refine ⟨k + 1, lv3, by omega, by go_num, ?_, ?_, NE3.out⟩
          · show BoxH _ _ _ _ _
            rw [TK.out, lastAll_snoc, LA.out]; exact B3.out
          · show World.ownsRow _ _ _ _ _ _ _
            rw [TK.out, encG_snoc, LA.out, US.out, EH.out]
            rw [List.append_assoc] at O3
            exact O3.out
        case measure => simp [intOf]; omega
    · obtain rfl : k = A.length := by omega
      rw [List.take_length] at hB hO
      have b0 := hB.out.cell 0
      have OO := Lib.hid hO.out
      go_wp2
      exact HR.out v _ (own_base OO.out G1.out.size) (G1.out.tr hB.out.grow)
end Go.Proofs.Ytehffeglgdcogaa
