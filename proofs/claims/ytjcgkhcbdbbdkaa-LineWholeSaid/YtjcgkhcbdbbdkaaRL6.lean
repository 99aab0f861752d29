/-
  The reference's lines, sixth part: Clip.
-/
import Derived.Test.YtjcgkhcbdbbdkaaChecked
import Derived.Test.YtjcgkhcbdbbdkaaRL4
import Derived.Test.YtjcgkhcbdbbdkaaRL5
import Derived.Laws.OwnMore
namespace Go.Proofs.Ytjcgkhcbdbbdkaa
open Go.RowKit B

structure PRw where
  v : Value
  l : List PV
theorem el_prw : Elem Try.prog 74 52 (.slice none 0 0) 1 24 := ⟨by kernel_rfl, by kernel_rfl, rfl, by decide, by decide⟩
theorem BigR.by_ {w w' : World} {S : Nat → Prop} {v : Value} {z : Int} {k : Nat} {row : Option Nat} (h : BigR w S v z k) (hg : w.grownBy w' row) (hS : ∀ b, S b → some b ≠ row) : BigR w' S v z k := by
  obtain ⟨h1, m, h2, h3⟩ := h
  exact ⟨h1, m, h2, h3.by_ (by decide) hg hS⟩
theorem RV.rd.by_ {r : RV} {w w' : World} {S : Nat → Prop} {k : Nat} {row : Option Nat} (h : r.rd w S k) (hg : w.grownBy w' row) (hS : ∀ b, S b → some b ≠ row) : r.rd w' S k := by
  obtain ⟨n, d, h1, h2, p, A, x, c, p', A', x', c', h3, h4, h5⟩ := h
  exact ⟨n, d, h1, h2, p, A, x, c, p', A', x', c', h3, h4.by_ hg hS, h5.by_ hg hS⟩
theorem PV.rd.by_ {p : PV} {w w' : World} {S : Nat → Prop} {k : Nat} {row : Option Nat} (h : p.rd w S k) (hg : w.grownBy w' row) (hS : ∀ b, S b → some b ≠ row) : p.rd w' S k := ⟨h.1.by_ hg hS, h.2.by_ hg hS⟩
def OffB (pv qv : Value) (b : Nat) : Prop := some b ≠ pv.ownBlock ∧ some b ≠ qv.ownBlock
structure RSt (w0 : World) (pv qv : Value) (rows : List PRw) (part : List PV) (W : World) : Prop where
  gr : Grow w0 W
  op : W.ownsRow w0.heap.size 52 1 pv rows.length (rows.map PRw.v)
  oq : W.ownsRow w0.heap.size 37 8 qv part.length (PVs part)
  pq : ∀ k, qv.ownBlock = some k → pv.ownBlock ≠ some k
  each : ∀ r ∈ rows, Rd W (OffB pv qv) 8 r.v r.l.length (PVs r.l)
  vals : ∀ r ∈ rows, ∀ p ∈ r.l, p.rd W (OffB pv qv) 15
  pvals : ∀ p ∈ part, p.rd W (OffB pv qv) 15
theorem RSt.tr {w0 : World} {pv qv : Value} {rows : List PRw} {part : List PV} {W W' : World} (h : RSt w0 pv qv rows part W) (hg : Grow W W') : RSt w0 pv qv rows part W' :=
  ⟨h.gr.tr hg, own_grow h.op hg, own_grow h.oq hg, h.pq, fun r hr => (h.each r hr).gr2 (by decide) hg, fun r hr p hp => (h.vals r hr p hp).gr hg, fun p hp => (h.pvals p hp).gr hg⟩
theorem RSt.off {w0 : World} {pv qv : Value} {rows : List PRw} {part : List PV} {W : World} (h : RSt w0 pv qv rows part W) {b : Nat} (hb : W.heap.size ≤ b) : OffB pv qv b :=
  ⟨fun e => by have := (h.op.lt b e.symm).2; omega, fun e => by have := (h.oq.lt b e.symm).2; omega⟩
theorem Fresh.off {W : World} {v v' : Value} {b : Nat} (h : Fresh W v v') (hb : b < W.heap.size) (hv : some b ≠ v.ownBlock) : some b ≠ v'.ownBlock := fun e => h.ne hb (fun e2 => hv e2.symm) e.symm
theorem RSt.put {w0 : World} {pv qv qv' : Value} {rows : List PRw} {part part' : List PV} {W W' : World} (h : RSt w0 pv qv rows part W)
    (hg : W.grownBy W' qv.ownBlock) (ho : W'.ownsRow w0.heap.size 37 8 qv' part'.length (PVs part')) (hf : Fresh W qv qv') (hp : ∀ p ∈ part', p.rd W (OffB pv qv) 15) :
    RSt w0 pv qv' rows part' W' := by
  have pk : pv.ownBlock = none ∨ pv.ownBlock ≠ qv.ownBlock := by
    cases e : pv.ownBlock with
    | none => exact .inl rfl
    | some k => exact .inr fun e2 => h.pq k e2.symm e
  have key : ∀ p : PV, p.rd W (OffB pv qv) 15 → p.rd W' (OffB pv qv') 15 := fun p hp => ((hp.both).by_ hg (fun b hb => hb.1.2)).into fun b hb => ⟨hb.1.1, hf.off hb.2 hb.1.2⟩
  refine ⟨grow_app h.gr hg (own_ge h.oq), h.op.kept hg pk, ho, ?_, ?_, fun r hr p hp => key p (h.vals r hr p hp), fun p hx => key p (hp p hx)⟩
  · intro k hk e
    rcases hf with e1 | ⟨j, e1, hj⟩
    · exact h.pq k (e1.symm.trans hk) e
    · rw [hk] at e1
      injection e1 with e1
      have := (h.op.lt k e).2
      omega
  · intro r hr
    exact (((h.each r hr).and_lt0 (by decide)).by_ (by decide) hg (fun b hb => hb.1.2)).into fun b hb => ⟨hb.1.1, hf.off hb.2 hb.1.2⟩
theorem RSt.fin {w0 : World} {pv qv pv' : Value} {rows : List PRw} {part : List PV} {W W' : World} (h : RSt w0 pv qv rows part W)
    (hg : W.grownBy W' pv.ownBlock) (ho : W'.ownsRow w0.heap.size 52 1 pv' (rows.length + 1) (rows.map PRw.v ++ [qv])) (hf : Fresh W pv pv') :
    RSt w0 pv' (.slice none 0 0) (rows ++ [⟨qv, part⟩]) [] W' := by
  have nn : ∀ b, some b ≠ (Value.slice none 0 0).ownBlock := fun b => by simp [Value.ownBlock]
  have key : ∀ p : PV, p.rd W (OffB pv qv) 15 → p.rd W' (OffB pv' (.slice none 0 0)) 15 := fun p hp => ((hp.both).by_ hg (fun b hb => hb.1.1)).into fun b hb => ⟨hf.off hb.2 hb.1.1, nn b⟩
  refine ⟨grow_app h.gr hg (own_ge h.op), own_eq ho (by simp) (by simp), World.ownsRow_nil _ _ _ _, fun k hk => by simp [Value.ownBlock] at hk, ?_, ?_, fun p hp => by simp at hp⟩
  · intro r hr
    have k1 : Rd W (fun b => some b ≠ pv.ownBlock) 8 r.v r.l.length (PVs r.l) := by
      rcases List.mem_append.1 hr with hr | hr
      · exact (h.each r hr).into fun b hb => hb.1
      · rw [List.mem_singleton.1 hr]
        exact (Rd.own h.oq).into fun b hb e => h.pq b hb.symm e.symm
    exact ((k1.and_lt0 (by decide)).by_ (by decide) hg (fun b hb => hb.1)).into fun b hb => ⟨hf.off hb.2 hb.1, nn b⟩
  · intro r hr p hp
    rcases List.mem_append.1 hr with hr | hr
    · exact key p (h.vals r hr p hp)
    · rw [List.mem_singleton.1 hr] at hp
      exact key p (h.pvals p hp)
theorem RSt.clr {w0 : World} {pv qv : Value} {rows : List PRw} {part : List PV} {W : World} (h : RSt w0 pv qv rows part W) : RSt w0 pv (.slice none 0 0) rows [] W := by
  have nn : ∀ b, some b ≠ (Value.slice none 0 0).ownBlock := fun b => by simp [Value.ownBlock]
  exact ⟨h.gr, h.op, World.ownsRow_nil _ _ _ _, fun k hk => by simp [Value.ownBlock] at hk, fun r hr => (h.each r hr).into fun b hb => ⟨hb.1, nn b⟩, fun r hr p hp => (h.vals r hr p hp).into fun b hb => ⟨hb.1, nn b⟩, fun p hp => by simp at hp⟩
theorem RSt.new {w0 : World} {pv qv : Value} {rows : List PRw} {part : List PV} {W : World} (h : RSt w0 pv qv rows part W) (p : PV) (hp : p.rd W (OffB pv qv) 15) :
    RSt w0 pv (.slice (some ⟨W.heap.size, 0, none⟩) 1 1) rows [p] (W.alloc (.cells p.cells.toArray 37)) := by
  have gA : Grow W (W.alloc (.cells p.cells.toArray 37)) := (Grow.refl W).al _
  have ob : (Value.slice (some ⟨W.heap.size, 0, none⟩) 1 1).ownBlock = some W.heap.size := by simp [Value.ownBlock]
  have nn : ∀ b, b < W.heap.size → some b ≠ (Value.slice (some ⟨W.heap.size, 0, none⟩) 1 1).ownBlock := fun b hb => by rw [ob]; intro e; injection e with e; omega
  refine ⟨h.gr.tr gA, own_grow h.op gA, ?_, ?_, ?_, ?_, ?_⟩
  · exact own_eq (World.ownsRow_lit W p.cells.toArray 1 h.gr.size (by decide) rfl) rfl (by simp [PVs])
  · intro k hk e
    rw [ob] at hk
    injection hk with hk
    have := (h.op.lt k e).2
    omega
  · intro r hr
    exact (((h.each r hr).and_lt0 (by decide)).gr2 (by decide) gA).into fun b hb => ⟨hb.1.1, nn b hb.2⟩
  · intro r hr q hq
    exact ((h.vals r hr q hq).both.gr gA).into fun b hb => ⟨hb.1.1, nn b hb.2⟩
  · intro q hq
    rw [List.mem_singleton.1 hq]
    exact (hp.both.gr gA).into fun b hb => ⟨hb.1.1, nn b hb.2⟩
theorem putQ_len (l : List PtQ) (s : PtQ) : (putQ l s).length ≤ l.length + 1 := by unfold putQ; split <;> simp
theorem partQ_len (l : List Pt) (lo hi : Int) (part : List PtQ) (k : Nat) (h : part.length ≤ 2 * k) : (partQ l lo hi part k).length ≤ 2 * (k + 1) := by
  unfold partQ
  split
  · omega
  · split
    · split
      · simp; omega
      · omega
    · split
      · omega
      · split
        · refine Nat.le_trans (putQ_len _ _) ?_
          refine Nat.le_trans (Nat.succ_le_succ (putQ_len _ _)) ?_
          omega
        · omega
theorem clipQTo_len (l : List Pt) (lo hi : Int) : ∀ k, (clipQTo l lo hi k).1.length ≤ k ∧ (clipQTo l lo hi k).2.length ≤ 2 * k
  | 0 => ⟨Nat.le_refl _, Nat.le_refl _⟩
  | k + 1 => by
    obtain ⟨h1, h2⟩ := clipQTo_len l lo hi k
    rw [clipQTo_succ]
    unfold stepQ
    have h3 := partQ_len l lo hi _ k h2
    split
    · omega
    · split
      · unfold flQ
        dsimp only
        refine ⟨?_, by simp⟩
        rw [List.length_append]
        split <;> simp <;> omega
      · dsimp only; omega
theorem putP_q (l : List PV) (s : PV) : (putP l s).map PV.q = putQ (l.map PV.q) s.q := by
  unfold putP putQ
  rw [List.getLast?_map]
  cases h : l.getLast? with
  | none => simp
  | some x =>
    simp only [Option.map_some, Option.any_some]
    split <;> simp

theorem putP_mem {l : List PV} {s x : PV} (h : x ∈ putP l s) : x ∈ l ∨ x = s := by
  unfold putP at h
  split at h
  · exact .inl h
  · rcases List.mem_append.1 h with h | h
    · exact .inl h
    · exact .inr (List.mem_singleton.1 h)
def RQ (rows : List PRw) : List (List PtQ) := rows.map fun x => x.l.map PV.q
theorem stepQ_at {l : List Pt} {lo hi : Int} {k : Nat} {p : Pt} (h : l[k]? = some p) (st : QS) : stepQ l lo hi st k = if p.inside lo hi = false ∨ k + 1 = l.length then flQ (st.1, partQ l lo hi st.2 k) else (st.1, partQ l lo hi st.2 k) := by
  unfold stepQ
  rw [h]

set_option maxRecDepth 100000 in
set_option maxHeartbeats 8000000 in
theorem rclip_any (l : List Pt) (lo hi : Int) (v : Value) (S : Nat → Prop) (w : World) (hb : Rd w S 2 v l.length (Pts l)) (hl : l.length ≤ 1000) (hok : ∀ p ∈ l, p.ok) (hlo : I64 lo) (hhi : I64 hi) {R : Ending → World → Prop}
    (hR : ∀ (r : Value) (rows : List PRw) (w' : World), w'.ownsRow w.heap.size 52 1 r rows.length (rows.map PRw.v) → RQ rows = clipQ l lo hi → (∀ x ∈ rows, Rd w' (fun _ => True) 8 x.v x.l.length (PVs x.l) ∧ ∀ p ∈ x.l, p.rd w' (fun _ => True) 15) → Grow w w' → R (.returned r) w') :
    Calls Try.prog 35 #[v, .int .i64 lo, .int .i64 hi] w R := by
  have HR := Lib.hid hR
  clear hR
  have hb := hb.lt (by decide)
  obtain ⟨_, A, c, rfl, k1, k2, k3, k4⟩ := hb
  unfold maxLen at k2
  have HOK := Lib.hid hok
  have HI := Lib.hid (And.intro hlo hhi)
  clear hok hlo hhi
  have tw : IntKind.i64.wrap ((l.length : Int) - 1) = (l.length : Int) - 1 := IntWalk.i64_in _ (by omega)
  have TW := Lib.hid tw
  clear tw
  go_enter Try.func35, Try.ntmps35
  go_wp2
  go_loopw [9, 8, 7] (fun i q p wr => ∃ (k : Nat) (rows : List PRw) (part : List PV), k ≤ l.length ∧ i = .int .i64 k ∧ Hid ((RQ rows, part.map PV.q) = clipQTo l lo hi k) ∧ Hid (RSt w p q rows part wr)) (fun i _ _ _ => l.length - (intOf i).toNat)
  case atStart => exact ⟨0, [], [], Nat.zero_le _, rfl, rfl, ⟨Grow.refl _, World.ownsRow_nil _ _ _ _, World.ownsRow_nil _ _ _ _, fun k hk => by simp [Value.ownBlock] at hk, fun r hr => by simp at hr, fun r hr => by simp at hr, fun p hp => by simp at hp⟩⟩
  case round =>
    obtain ⟨k, rows, part, hk, rfl, hct, hst⟩ := hrel
    obtain ⟨ap, cp, rfl⟩ := own_slice hst.out.op
    obtain ⟨aq, cq, rfl⟩ := own_slice hst.out.oq
    have LN : Hid (rows.length ≤ k ∧ part.length ≤ 2 * k) := by
      have h := clipQTo_len l lo hi k
      rw [← hct.out] at h
      exact ⟨by simpa [RQ] using h.1, by simpa using h.2⟩
    by_cases hlt : k < l.length
    · obtain ⟨bl, o, rfl, hS, hc⟩ := k4 (by omega)
      have e0 := fun W (h : Grow w W) => flat_cells Pt.cells_len h hS hc hlt
      have HP : Hid (l[k]? = some (l[k]'hlt)) := List.getElem?_eq_getElem hlt
      have PO := HOK.out _ (List.getElem_mem hlt)
      have tq : ∃ b, (((k : Int) == (l.length : Int) - 1) = b ∧ b = decide (k + 1 = l.length)) := ⟨_, rfl, by rw [Bool.eq_iff_iff, beq_iff_eq, decide_eq_true_eq]; omega⟩
      obtain ⟨lst, tq1, tq2⟩ := tq
      have TQ := Lib.hid tq1
      have TL := Lib.hid tq2
      clear tq1 tq2
      have SQ : Hid (clipQTo l lo hi (k + 1) = stepQ l lo hi (RQ rows, part.map PV.q) k) := by show _ = _; rw [hct.out, clipQTo_succ]
      clear hct
      have PK : Hid (0 < k → ∃ q, q.ok ∧ l[k - 1]? = some q ∧ ∀ W, Grow w W → W.cell? ⟨bl, o + (k - 1) * 2, none⟩ = some (.int .i64 q.x) ∧ W.cell? ⟨bl, o + (k - 1) * 2 + 1, none⟩ = some (.int .i64 q.y)) := fun h0 => by
        have hq : k - 1 < l.length := by omega
        have e1 := fun W (h : Grow w W) => flat_cells Pt.cells_len h hS hc hq
        exact ⟨l[k - 1], HOK.out _ (List.getElem_mem hq), List.getElem?_eq_getElem hq, fun W h => ⟨e1 W h 0 _ rfl, e1 W h 1 _ rfl⟩⟩
      have IN := Lib.hid fun W (R : Ending → World → Prop) hR => inside_any (l[k]'hlt) lo hi W (R := R) hR
      generalize (l[k]'hlt) = p at *
      have AT := Lib.hid fun W (R : Ending → World → Prop) hR => at24_any p W PO (R := R) hR
      have SP := Lib.hid (stepQ_at (lo := lo) (hi := hi) HP.out)
      have E0 : Hid (∀ W, Grow w W → W.cell? ⟨bl, o + k * 2, none⟩ = some (.int .i64 p.x) ∧ W.cell? ⟨bl, o + k * 2 + 1, none⟩ = some (.int .i64 p.y)) := fun W h => ⟨e0 W h 0 _ rfl, e0 W h 1 _ rfl⟩
      generalize hbi : p.inside lo hi = bi at *
      have HBI := Lib.hid hbi
      have HPO := Lib.hid PO
      clear e0 hc k4 k3 PO hbi
      unfold Pt.cells at IN AT
      have ST := Lib.hid hst.out
      have GZ := Lib.hid hst.out.gr
      clear hst
      -- $QV: the part's slot, $PA: the part, $EQ: its values; ST: the state, in world $W
      by_cases hk0 : k = 0
      · subst hk0
        have E0 : Hid (∀ W, Grow w W → W.cell? ⟨bl, o, none⟩ = some (.int .i64 p.x) ∧ W.cell? ⟨bl, o + 1, none⟩ = some (.int .i64 p.y)) := fun W h => by simpa only [Nat.zero_mul, Nat.add_zero] using E0.out W h
        obtain ⟨x0, x1⟩ := E0.out _ GZ.out
        go_wp2_with fail
        go_at_call 14
        refine IN.out _ _ ?_
        intro w1 hg1
        have ST := Lib.hid (ST.out.tr hg1)
        have GZ := Lib.hid ST.out.gr
        clear hg1 x0 x1
        cases bi with
        | false =>
          have EQ : Hid (partQ l lo hi (part.map PV.q) 0 = part.map PV.q) := by
            show _ = _
            unfold partQ
            rw [HP.out]
            dsimp only
            rw [if_pos rfl, if_neg (by rw [HBI.out]; decide)]
          have GZ := Lib.hid ST.out.gr
          obtain ⟨x0, x1⟩ := E0.out _ GZ.out
          go_wp2_with fail
          go_at_call 14
          refine IN.out _ _ ?_
          intro w9 hg9
          have ST := Lib.hid (ST.out.tr hg9)
          clear hg9 x0 x1
          by_cases hpe : part = []
          · have t3 : (part).length = 0 := by rw [hpe]; rfl
            have EF : Hid ((RQ rows, ([] : List PV).map PV.q) = clipQTo l lo hi (0 + 1)) := by
              show _ = _
              rw [SQ.out, SP.out, if_pos (.inl (by first | rfl | trivial)), EQ.out]
              unfold flQ
              rw [hpe]
              simp
            have STN := Lib.hid ST.out.clr
            go_wp2
            go_roundw
            case rel => exact ⟨0 + 1, rows, [], by omega, by go_num, EF.out, STN.out⟩
            case measure => simp [intOf]; omega
          · have t3 : 0 < (part).length := List.length_pos_iff.2 hpe
            have EF : Hid ((RQ (rows ++ [⟨(.slice aq part.length cq), part⟩]), ([] : List PV).map PV.q) = clipQTo l lo hi (0 + 1)) := by
              show _ = _
              rw [SQ.out, SP.out, if_pos (.inl (by first | rfl | trivial)), EQ.out]
              unfold flQ RQ
              simp [hpe]
            have HPE := Lib.hid hpe
            clear hpe
            go_wp2_with (at_builtin; refine wpList_newAt rfl _ _ rfl el_prw (own_grow ST.out.op (Grow.refl _)) rfl 1 _ rfl _ rfl (by decide) rfl (by simp [Value.oneCell']) (by have := LN.out; omega) ST.out.gr ⟨Nat.le_refl _, ST.out.gr.size⟩ ?_; intro v5 w5 hO5 hg5 hgr5 hb5; obtain ⟨A5, c5', rfl⟩ := own_slice hO5; have STF := Lib.hid (ST.out.fin hgr5 hO5 (hb5.elim .inl fun h => .inr ⟨_, h, Nat.le_succ _⟩)); clear hO5 hg5 hgr5 hb5)
            go_roundw
            case rel => exact ⟨0 + 1, _, [], by omega, by go_num, EF.out, STF.out⟩
            case measure => simp [intOf]; omega
        | true =>
          obtain ⟨x0, x1⟩ := E0.out _ GZ.out
          go_wp2_with fail
          go_at_call 30
          refine AT.out _ _ ?_
          intro r w2 hg2 hrq hrr
          have EQ : Hid (partQ l lo hi (part.map PV.q) 0 = [r].map PV.q) := by
            show _ = _
            unfold partQ
            rw [HP.out]
            dsimp only
            rw [if_pos rfl, if_pos HBI.out, List.map_cons, List.map_nil, hrq]
          have STN := Lib.hid ((ST.out.tr hg2).new r ((hrr.into fun b hb => ST.out.off hb).up (by omega)))
          clear hg2 hrq hrr x0 x1 AT
          obtain ⟨⟨⟨a1, a2, a3, a4⟩, ⟨a5, a6, a7, a8⟩, aq⟩, ⟨⟨b1, b2, b3, b4⟩, ⟨b5, b6, b7, b8⟩, bq⟩⟩ := r
          unfold PV.cells at STN ⊢
          dsimp only at STN ⊢
          go_upto_region 8 with fail
          have ST := Lib.hid STN.out
          clear STN
          generalize w2.alloc (.cells #[.bool a1, .slice a2 a3 a4, .bool a5, .slice a6 a7 a8, .bool b1, .slice b2 b3 b4, .bool b5, .slice b6 b7 b8] 37) = w3 at *
          generalize w2.heap.size = gb at *
          have GZ := Lib.hid ST.out.gr
          obtain ⟨x0, x1⟩ := E0.out _ GZ.out
          go_wp2_with fail
          go_at_call 14
          refine IN.out _ _ ?_
          intro w9 hg9
          have ST := Lib.hid (ST.out.tr hg9)
          clear hg9 x0 x1
          have tw := TW.out
          have tq := TQ.out
          cases lst with
          | true =>
            go_upto_region 13 with fail
            clear tw tq
            have hpe : ¬ [(⟨(⟨⟨a1, a2, a3, a4⟩, ⟨a5, a6, a7, a8⟩, aq⟩ : RV), (⟨⟨b1, b2, b3, b4⟩, ⟨b5, b6, b7, b8⟩, bq⟩ : RV)⟩ : PV)] = [] := by simp
            have t3 : 0 < ([(⟨(⟨⟨a1, a2, a3, a4⟩, ⟨a5, a6, a7, a8⟩, aq⟩ : RV), (⟨⟨b1, b2, b3, b4⟩, ⟨b5, b6, b7, b8⟩, bq⟩ : RV)⟩ : PV)]).length := List.length_pos_iff.2 hpe
            have EF : Hid ((RQ (rows ++ [⟨(.slice (some ⟨gb, 0, none⟩) 1 1), [(⟨(⟨⟨a1, a2, a3, a4⟩, ⟨a5, a6, a7, a8⟩, aq⟩ : RV), (⟨⟨b1, b2, b3, b4⟩, ⟨b5, b6, b7, b8⟩, bq⟩ : RV)⟩ : PV)]⟩]), ([] : List PV).map PV.q) = clipQTo l lo hi (0 + 1)) := by
              show _ = _
              rw [SQ.out, SP.out, if_pos (.inr (of_decide_eq_true TL.out.symm)), EQ.out]
              unfold flQ RQ
              simp
            have HPE := Lib.hid hpe
            clear hpe
            go_wp2_with (at_builtin; refine wpList_newAt rfl _ _ rfl el_prw (own_grow ST.out.op (Grow.refl _)) rfl 1 _ rfl _ rfl (by decide) rfl (by simp [Value.oneCell']) (by have := LN.out; omega) ST.out.gr ⟨Nat.le_refl _, ST.out.gr.size⟩ ?_; intro v5 w5 hO5 hg5 hgr5 hb5; obtain ⟨A5, c5', rfl⟩ := own_slice hO5; have STF := Lib.hid (ST.out.fin hgr5 hO5 (hb5.elim .inl fun h => .inr ⟨_, h, Nat.le_succ _⟩)); clear hO5 hg5 hgr5 hb5)
            go_roundw
            case rel => exact ⟨0 + 1, _, [], by omega, by go_num, EF.out, STF.out⟩
            case measure => simp [intOf]; omega
          | false =>
            have EF : Hid ((RQ rows, ([(⟨(⟨⟨a1, a2, a3, a4⟩, ⟨a5, a6, a7, a8⟩, aq⟩ : RV), (⟨⟨b1, b2, b3, b4⟩, ⟨b5, b6, b7, b8⟩, bq⟩ : RV)⟩ : PV)]).map PV.q) = clipQTo l lo hi (0 + 1)) := by
              show _ = _
              rw [SQ.out, SP.out, if_neg (by have := of_decide_eq_false TL.out.symm; simpa using this), EQ.out]
            go_wp2
            go_roundw
            case rel => exact ⟨0 + 1, rows, [(⟨(⟨⟨a1, a2, a3, a4⟩, ⟨a5, a6, a7, a8⟩, aq⟩ : RV), (⟨⟨b1, b2, b3, b4⟩, ⟨b5, b6, b7, b8⟩, bq⟩ : RV)⟩ : PV)], by omega, by go_num, EF.out, ST.out⟩
            case measure => simp [intOf]; omega
      · obtain ⟨q, qok, hq, hqc⟩ := PK.out (by omega)
        obtain ⟨km, hkm⟩ : ∃ km, km = k - 1 := ⟨_, rfl⟩
        rw [← hkm] at hq hqc
        have KW : Hid (IntKind.i64.wrap ((k : Int) - 1) = (km : Int) ∧ km < l.length) := ⟨by rw [IntWalk.i64_in _ (by omega)]; omega, by omega⟩
        have t0 : ((k : Int) == 0) = false := by rw [beq_eq_false_iff_ne]; omega
        have t1 : 0 < k := by omega
        have EP : Hid (partQ l lo hi (part.map PV.q) k = if (segQ q p lo hi).2.2 = true then putQ (putQ (part.map PV.q) (segQ q p lo hi).1) (segQ q p lo hi).2.1 else part.map PV.q) := by
          show _ = _
          unfold partQ
          rw [HP.out]
          dsimp only
          rw [if_neg hk0, ← hkm, hq]
        have SG := Lib.hid fun W (R : Ending → World → Prop) hR => segment_q q p lo hi W qok HPO.out HI.out.1 HI.out.2 (R := R) hR
        have HQC := Lib.hid hqc
        clear hk0 hkm hq hqc qok PK AT
        generalize (segQ q p lo hi).1 = qa at *
        generalize (segQ q p lo hi).2.1 = qb at *
        generalize (segQ q p lo hi).2.2 = sok at *
        unfold Pt.cells at SG
        go_upto_region 9 with fail
        clear t0 t1
        refine wp_region_freeS ⟨16, some 10, 37, zeroPV.cells.toArray⟩ ⟨17, some 11, 37, zeroPV.cells.toArray⟩ 20 [0, 1, 2, 3, 4, 5, 6, 7, 8, 9, 10, 11, 12, 13, 14, 15] [18, 19] (by kernel_rfl) (by kernel_rfl) (by decide) ⟨_, rfl, rfl, rfl, fun a W K h => by go_simp; exact h⟩ ⟨_, rfl, rfl, rfl, fun a W K h => by go_simp; exact h⟩ (by intro c a d v w h; cases d <;> exact h) u10 u11 rfl rfl ?_
        have GD : Hid (Grow wr wr.drew) := (Grow.refl _).dr
        generalize wr.drew = wb at *
        iterate 11
          apply frs_take; exact rfl; (simp); (simp); (intro x1 x2; exact rfl)
          · intro x1 x2 W' hW
            obtain ⟨y0, y1⟩ := E0.out W' (GZ.out.tr (GD.out.tr hW))
            obtain ⟨z0, z1⟩ := HQC.out W' (GZ.out.tr (GD.out.tr hW))
            obtain ⟨q1, q2⟩ := KW.out
            clear hW
            simp only [FA.put2, Act.put, List.setIfInBounds_toArray, List.set_cons_zero, List.set_cons_succ]
            go_simp
            with_reducible rfl
          simp only [Act.put, List.setIfInBounds_toArray, List.set_cons_zero, List.set_cons_succ]
        apply frs_turn; exact rfl; exact rfl; (simp); (simp); (intro x1 x2; exact rfl)
        intro x1 x2 W5 hW hJ K hK
        simp only [FA.put2, Act.put, List.setIfInBounds_toArray, List.set_cons_zero, List.set_cons_succ]
        go_simp
        go_at_call 12
        refine SG.out _ _ ?_
        intro ra rb ok w5 hg5 hok hres
        subst hok
        have HRES : Hid (sok = true → ra.q = qa ∧ rb.q = qb ∧ ra.rd w5 (OffB (.slice ap rows.length cp) (.slice aq part.length cq)) 15 ∧ rb.rd w5 (OffB (.slice ap rows.length cp) (.slice aq part.length cq)) 15) := fun h => by
          obtain ⟨h1, h2, h3, h4⟩ := hres h
          have hz : ∀ b, W5.heap.size ≤ b → OffB (.slice ap rows.length cp) (.slice aq part.length cq) b := fun b hb => ST.out.off (Nat.le_trans (GD.out.tr hW).size hb)
          exact ⟨h1, h2, h3.into hz, h4.into hz⟩
        refine hK.out _ _ (fun W => Grow w5 W) hg5 (fun _ _ g h => h.tr g) (Grow.refl _) ?_
        clear hK hW hg5 hJ hres SG
        simp only [Act.put, List.setIfInBounds_toArray, List.set_cons_zero, List.set_cons_succ]
        iterate 4
          apply frs_take; exact rfl; (simp); (simp); (intro x1 x2; exact rfl)
          · intro x1 x2 W' hW
            obtain ⟨y0, y1⟩ := E0.out W' (GZ.out.tr (GD.out.tr hW))
            obtain ⟨z0, z1⟩ := HQC.out W' (GZ.out.tr (GD.out.tr hW))
            obtain ⟨q1, q2⟩ := KW.out
            clear hW
            simp only [FA.put2, Act.put, List.setIfInBounds_toArray, List.set_cons_zero, List.set_cons_succ]
            go_simp
            with_reducible rfl
          simp only [Act.put, List.setIfInBounds_toArray, List.set_cons_zero, List.set_cons_succ]
        refine frs_nil ?_
        intro c1 c2 V hV hJ hne hc1 hc2
        have FC1 : Hid (V.heap[c1]? = some (.cells zeroPV.cells.toArray 37 (0, 0))) := hc1.2
        have FC2 : Hid (V.heap[c2]? = some (.cells zeroPV.cells.toArray 37 (0, 0))) := hc2.2
        have N1 : BoxN V c1 := ⟨_, _, _, FC1.out, PV.noint _⟩
        have N2 : BoxN V c2 := ⟨_, _, _, FC2.out, PV.noint _⟩
        have NE : Hid (c1 ≠ c2 ∧ c2 ≠ c1) := ⟨hne, fun e => hne e.symm⟩
        have L1 : wb.heap.size ≤ c1 := hc1.1
        have L2 : wb.heap.size ≤ c2 := hc2.1
        have OC : Hid (OffB (.slice ap rows.length cp) (.slice aq part.length cq) c1 ∧ OffB (.slice ap rows.length cp) (.slice aq part.length cq) c2) := ⟨ST.out.off (Nat.le_trans GD.out.size L1), ST.out.off (Nat.le_trans GD.out.size L2)⟩
        have G1 : Grow wb (V.setRow c1 ra.cells.toArray) := Grow.row hV L1 _
        have G2 : Grow wb ((V.setRow c1 ra.cells.toArray).setRow c2 rb.cells.toArray) := G1.row L2 _
        have H2 : (V.setRow c1 ra.cells.toArray).heap[c2]? = some (.cells zeroPV.cells.toArray 37 (0, 0)) := (setRow_other _ _ _ _ NE.out.2).trans FC2.out
        refine ⟨Grow wb, fun _ h => h, hV, ?_⟩
        have JV := Lib.hid hJ
        clear hV hne hc1 hc2 hJ L1 L2
        unfold ptrTo FA.put2
        simp only [Act.put, List.setIfInBounds_toArray, List.set_cons_zero, List.set_cons_succ, List.drop_succ_cons, List.drop_zero]
        apply lext_turn; exact rfl; exact rfl; exact rfl; intro K hK
        refine wp_store_row 37 _ _ rfl c1 ra.cells.toArray rfl rfl 37 _ FC1.out (by kernel_rfl) rfl (PV.one _) ?_
        refine hK.out _ _ G1 ?_
        clear hK
        simp only [Act.put]
        apply lext_turn; exact rfl; exact rfl; exact rfl; intro K hK
        refine wp_store_row 37 _ _ rfl c2 rb.cells.toArray rfl rfl 37 _ H2 (by kernel_rfl) rfl (PV.one _) ?_
        refine hK.out _ _ G2 ?_
        clear hK
        simp only [Act.put]
        refine lext_nil ?_
        have HRES : Hid (sok = true → ra.q = qa ∧ rb.q = qb ∧ ra.rd ((V.setRow c1 ra.cells.toArray).setRow c2 rb.cells.toArray) (OffB (.slice ap rows.length cp) (.slice aq part.length cq)) 15 ∧ rb.rd ((V.setRow c1 ra.cells.toArray).setRow c2 rb.cells.toArray) (OffB (.slice ap rows.length cp) (.slice aq part.length cq)) 15) := fun h => by
          obtain ⟨h1, h2, h3, h4⟩ := HRES.out h
          exact ⟨h1, h2, ((h3.gr JV.out).row N1 _).row (N2.row NE.out.2 _) _, ((h4.gr JV.out).row N1 _).row (N2.row NE.out.2 _) _⟩
        have FC2n := Lib.hid (setRow_heap _ c2 _ rb.cells.toArray _ _ H2)
        have FC1 := Lib.hid ((setRow_other _ c2 c1 rb.cells.toArray NE.out.1).trans (setRow_heap _ c1 _ ra.cells.toArray _ _ FC1.out))
        have FC2 := Lib.hid FC2n.out
        have ST := Lib.hid (ST.out.tr (GD.out.tr G2))
        clear FC2n H2 G1 G2 N1 N2 JV
        generalize (V.setRow c1 ra.cells.toArray).setRow c2 rb.cells.toArray = w9 at *
        cases sok with
        | false =>
          have EQ : Hid (partQ l lo hi (part.map PV.q) k = part.map PV.q) := by show _ = _; rw [EP.out, if_neg (by decide)]
          clear EP FC1 FC2 HRES
          go_upto_region 12 with fail
          have GZ := Lib.hid ST.out.gr
          obtain ⟨x0, x1⟩ := E0.out _ GZ.out
          go_wp2_with fail
          go_at_call 14
          refine IN.out _ _ ?_
          intro w9 hg9
          have ST := Lib.hid (ST.out.tr hg9)
          clear hg9 x0 x1
          cases bi with
          | false =>
            by_cases hpe : part = []
            · have t3 : (part).length = 0 := by rw [hpe]; rfl
              have EF : Hid ((RQ rows, ([] : List PV).map PV.q) = clipQTo l lo hi (k + 1)) := by
                show _ = _
                rw [SQ.out, SP.out, if_pos (.inl (by first | rfl | trivial)), EQ.out]
                unfold flQ
                rw [hpe]
                simp
              have STN := Lib.hid ST.out.clr
              go_wp2
              go_roundw
              case rel => exact ⟨k + 1, rows, [], by omega, by go_num, EF.out, STN.out⟩
              case measure => simp [intOf]; omega
            · have t3 : 0 < (part).length := List.length_pos_iff.2 hpe
              have EF : Hid ((RQ (rows ++ [⟨(.slice aq part.length cq), part⟩]), ([] : List PV).map PV.q) = clipQTo l lo hi (k + 1)) := by
                show _ = _
                rw [SQ.out, SP.out, if_pos (.inl (by first | rfl | trivial)), EQ.out]
                unfold flQ RQ
                simp [hpe]
              have HPE := Lib.hid hpe
              clear hpe
              go_wp2_with (at_builtin; refine wpList_newAt rfl _ _ rfl el_prw (own_grow ST.out.op (Grow.refl _)) rfl 1 _ rfl _ rfl (by decide) rfl (by simp [Value.oneCell']) (by have := LN.out; omega) ST.out.gr ⟨Nat.le_refl _, ST.out.gr.size⟩ ?_; intro v5 w5 hO5 hg5 hgr5 hb5; obtain ⟨A5, c5', rfl⟩ := own_slice hO5; have STF := Lib.hid (ST.out.fin hgr5 hO5 (hb5.elim .inl fun h => .inr ⟨_, h, Nat.le_succ _⟩)); clear hO5 hg5 hgr5 hb5)
              go_roundw
              case rel => exact ⟨k + 1, _, [], by omega, by go_num, EF.out, STF.out⟩
              case measure => simp [intOf]; omega
          | true =>
            have tw := TW.out
            have tq := TQ.out
            cases lst with
            | true =>
              go_upto_region 13 with fail
              clear tw tq
              by_cases hpe : part = []
              · have t3 : (part).length = 0 := by rw [hpe]; rfl
                have EF : Hid ((RQ rows, ([] : List PV).map PV.q) = clipQTo l lo hi (k + 1)) := by
                  show _ = _
                  rw [SQ.out, SP.out, if_pos (.inr (of_decide_eq_true TL.out.symm)), EQ.out]
                  unfold flQ
                  rw [hpe]
                  simp
                have STN := Lib.hid ST.out.clr
                go_wp2
                go_roundw
                case rel => exact ⟨k + 1, rows, [], by omega, by go_num, EF.out, STN.out⟩
                case measure => simp [intOf]; omega
              · have t3 : 0 < (part).length := List.length_pos_iff.2 hpe
                have EF : Hid ((RQ (rows ++ [⟨(.slice aq part.length cq), part⟩]), ([] : List PV).map PV.q) = clipQTo l lo hi (k + 1)) := by
                  show _ = _
                  rw [SQ.out, SP.out, if_pos (.inr (of_decide_eq_true TL.out.symm)), EQ.out]
                  unfold flQ RQ
                  simp [hpe]
                have HPE := Lib.hid hpe
                clear hpe
                go_wp2_with (at_builtin; refine wpList_newAt rfl _ _ rfl el_prw (own_grow ST.out.op (Grow.refl _)) rfl 1 _ rfl _ rfl (by decide) rfl (by simp [Value.oneCell']) (by have := LN.out; omega) ST.out.gr ⟨Nat.le_refl _, ST.out.gr.size⟩ ?_; intro v5 w5 hO5 hg5 hgr5 hb5; obtain ⟨A5, c5', rfl⟩ := own_slice hO5; have STF := Lib.hid (ST.out.fin hgr5 hO5 (hb5.elim .inl fun h => .inr ⟨_, h, Nat.le_succ _⟩)); clear hO5 hg5 hgr5 hb5)
                go_roundw
                case rel => exact ⟨k + 1, _, [], by omega, by go_num, EF.out, STF.out⟩
                case measure => simp [intOf]; omega
            | false =>
              have EF : Hid ((RQ rows, (part).map PV.q) = clipQTo l lo hi (k + 1)) := by
                show _ = _
                rw [SQ.out, SP.out, if_neg (by have := of_decide_eq_false TL.out.symm; simpa using this), EQ.out]
              go_wp2
              go_roundw
              case rel => exact ⟨k + 1, rows, part, by omega, by go_num, EF.out, ST.out⟩
              case measure => simp [intOf]; omega
        | true =>
          obtain ⟨ha1, ha2, ha3, ha4⟩ := HRES.out rfl
          have EQ : Hid (partQ l lo hi (part.map PV.q) k = (putP (putP part ra) rb).map PV.q) := by
            show _ = _
            rw [EP.out, if_pos rfl, putP_q, putP_q, ha1, ha2]
          go_upto_region 11 with fail
          have GN := Lib.hid ((Grow.refl w9).dr)
          have RA := Lib.hid (ha3.gr GN.out)
          have RB := Lib.hid (ha4.gr GN.out)
          have FC1 := Lib.hid (grow_blk GN.out FC1.out)
          have FC2 := Lib.hid (grow_blk GN.out FC2.out)
          have ST := Lib.hid (ST.out.tr GN.out)
          clear ha1 ha2 ha3 ha4 HRES EP GN
          refine wp_region_lexT (fun W => W.heap[c1]? = some (.cells ra.cells.toArray 37 (0, 0)) ∧ W.heap[c2]? = some (.cells rb.cells.toArray 37 (0, 0))) (⟨FC1.out, FC2.out⟩) 4 [0, 1, 3, 2] (by kernel_rfl) (by kernel_rfl) (by intro c a d v w h; cases d <;> exact h) ?_
          iterate 1 (apply lext_take; exact rfl; exact rfl; (intro W hW; (try clear hW); go_simp; with_reducible rfl); try simp only [Act.put, List.setIfInBounds_toArray, List.set_cons_zero, List.set_cons_succ])
          apply lext_take; exact rfl; exact rfl; (intro W hW; exact exec_load_row 37 _ rfl c1 rfl 37 _ _ _ hW.1 rfl Try.underlying37 (by kernel_rfl))
          try simp only [Act.put, List.setIfInBounds_toArray, List.set_cons_zero, List.set_cons_succ]
          apply lext_take; exact rfl; exact rfl; (intro W hW; exact exec_load_row 37 _ rfl c2 rfl 37 _ _ _ hW.2 rfl Try.underlying37 (by kernel_rfl))
          try simp only [Act.put, List.setIfInBounds_toArray, List.set_cons_zero, List.set_cons_succ]
          generalize w9.drew = wc at *
          apply lext_turn; exact rfl; exact rfl; exact rfl; intro K hK; go_simp; go_at_call 69; refine rput_any part ra 15 (OffB (.slice ap rows.length cp) (.slice aq part.length cq)) _ w wc ST.out.gr ST.out.oq (by have := LN.out; omega) RA.out ST.out.pvals (by omega) ?_; intro v6 w6 hO6 hgr6 hf6
          refine hK.out _ _ ⟨(hgr6.block c1 (lt_of_block FC1.out) OC.out.1.2).trans FC1.out, (hgr6.block c2 (lt_of_block FC2.out) OC.out.2.2).trans FC2.out⟩ ?_
          have ST1 := Lib.hid (ST.out.put hgr6 hO6 hf6 (fun x hx => (putP_mem hx).elim (fun h => ST.out.pvals x h) fun h => by rw [h]; exact RA.out))
          have RB := Lib.hid ((RB.out.both.by_ hgr6 (fun b hb => hb.1.2)).into (T := OffB (.slice ap rows.length cp) v6) fun b hb => ⟨hb.1.1, hf6.off hb.2 hb.1.2⟩)
          have PL1 : Hid ((putP part ra).length ≤ 2 * k + 1) := by show _ ≤ _; have := putP_len part ra; have := LN.out; omega
          obtain ⟨A6, c6, rfl⟩ := own_slice hO6
          clear hK hO6 hgr6 hf6 FC1 FC2 ST RA
          try simp only [Act.put, List.setIfInBounds_toArray, List.set_cons_zero, List.set_cons_succ]
          refine lext_nil ?_
          simp only [List.drop_succ_cons, List.drop_zero]
          go_wp2_with fail
          go_at_call 69
          refine rput_any (putP part ra) rb 15 (OffB (.slice ap rows.length cp) (.slice A6 (putP part ra).length c6)) _ w w6 ST1.out.gr ST1.out.oq (by have := PL1.out; omega) RB.out ST1.out.pvals (by omega) ?_
          intro v7 w7 hO7 hgr7 hf7
          have ST := Lib.hid (ST1.out.put hgr7 hO7 hf7 (fun x hx => (putP_mem hx).elim (fun h => ST1.out.pvals x h) fun h => by rw [h]; exact RB.out))
          obtain ⟨A7, c7, rfl⟩ := own_slice hO7
          clear hO7 hgr7 hf7 ST1 RB PL1
          go_upto_region 12 with fail
          have GZ := Lib.hid ST.out.gr
          obtain ⟨x0, x1⟩ := E0.out _ GZ.out
          go_wp2_with fail
          go_at_call 14
          refine IN.out _ _ ?_
          intro w9 hg9
          have ST := Lib.hid (ST.out.tr hg9)
          clear hg9 x0 x1
          cases bi with
          | false =>
            by_cases hpe : (putP (putP part ra) rb) = []
            · have t3 : ((putP (putP part ra) rb)).length = 0 := by rw [hpe]; rfl
              have EF : Hid ((RQ rows, ([] : List PV).map PV.q) = clipQTo l lo hi (k + 1)) := by
                show _ = _
                rw [SQ.out, SP.out, if_pos (.inl (by first | rfl | trivial)), EQ.out]
                unfold flQ
                rw [hpe]
                simp
              have STN := Lib.hid ST.out.clr
              go_wp2
              go_roundw
              case rel => exact ⟨k + 1, rows, [], by omega, by go_num, EF.out, STN.out⟩
              case measure => simp [intOf]; omega
            · have t3 : 0 < ((putP (putP part ra) rb)).length := List.length_pos_iff.2 hpe
              have EF : Hid ((RQ (rows ++ [⟨(.slice A7 (putP (putP part ra) rb).length c7), (putP (putP part ra) rb)⟩]), ([] : List PV).map PV.q) = clipQTo l lo hi (k + 1)) := by
                show _ = _
                rw [SQ.out, SP.out, if_pos (.inl (by first | rfl | trivial)), EQ.out]
                unfold flQ RQ
                simp [hpe]
              have HPE := Lib.hid hpe
              clear hpe
              go_wp2_with (at_builtin; refine wpList_newAt rfl _ _ rfl el_prw (own_grow ST.out.op (Grow.refl _)) rfl 1 _ rfl _ rfl (by decide) rfl (by simp [Value.oneCell']) (by have := LN.out; omega) ST.out.gr ⟨Nat.le_refl _, ST.out.gr.size⟩ ?_; intro v5 w5 hO5 hg5 hgr5 hb5; obtain ⟨A5, c5', rfl⟩ := own_slice hO5; have STF := Lib.hid (ST.out.fin hgr5 hO5 (hb5.elim .inl fun h => .inr ⟨_, h, Nat.le_succ _⟩)); clear hO5 hg5 hgr5 hb5)
              go_roundw
              case rel => exact ⟨k + 1, _, [], by omega, by go_num, EF.out, STF.out⟩
              case measure => simp [intOf]; omega
          | true =>
            have tw := TW.out
            have tq := TQ.out
            cases lst with
            | true =>
              go_upto_region 13 with fail
              clear tw tq
              by_cases hpe : (putP (putP part ra) rb) = []
              · have t3 : ((putP (putP part ra) rb)).length = 0 := by rw [hpe]; rfl
                have EF : Hid ((RQ rows, ([] : List PV).map PV.q) = clipQTo l lo hi (k + 1)) := by
                  show _ = _
                  rw [SQ.out, SP.out, if_pos (.inr (of_decide_eq_true TL.out.symm)), EQ.out]
                  unfold flQ
                  rw [hpe]
                  simp
                have STN := Lib.hid ST.out.clr
                go_wp2
                go_roundw
                case rel => exact ⟨k + 1, rows, [], by omega, by go_num, EF.out, STN.out⟩
                case measure => simp [intOf]; omega
              · have t3 : 0 < ((putP (putP part ra) rb)).length := List.length_pos_iff.2 hpe
                have EF : Hid ((RQ (rows ++ [⟨(.slice A7 (putP (putP part ra) rb).length c7), (putP (putP part ra) rb)⟩]), ([] : List PV).map PV.q) = clipQTo l lo hi (k + 1)) := by
                  show _ = _
                  rw [SQ.out, SP.out, if_pos (.inr (of_decide_eq_true TL.out.symm)), EQ.out]
                  unfold flQ RQ
                  simp [hpe]
                have HPE := Lib.hid hpe
                clear hpe
                go_wp2_with (at_builtin; refine wpList_newAt rfl _ _ rfl el_prw (own_grow ST.out.op (Grow.refl _)) rfl 1 _ rfl _ rfl (by decide) rfl (by simp [Value.oneCell']) (by have := LN.out; omega) ST.out.gr ⟨Nat.le_refl _, ST.out.gr.size⟩ ?_; intro v5 w5 hO5 hg5 hgr5 hb5; obtain ⟨A5, c5', rfl⟩ := own_slice hO5; have STF := Lib.hid (ST.out.fin hgr5 hO5 (hb5.elim .inl fun h => .inr ⟨_, h, Nat.le_succ _⟩)); clear hO5 hg5 hgr5 hb5)
                go_roundw
                case rel => exact ⟨k + 1, _, [], by omega, by go_num, EF.out, STF.out⟩
                case measure => simp [intOf]; omega
            | false =>
              have EF : Hid ((RQ rows, ((putP (putP part ra) rb)).map PV.q) = clipQTo l lo hi (k + 1)) := by
                show _ = _
                rw [SQ.out, SP.out, if_neg (by have := of_decide_eq_false TL.out.symm; simpa using this), EQ.out]
              go_wp2
              go_roundw
              case rel => exact ⟨k + 1, rows, (putP (putP part ra) rb), by omega, by go_num, EF.out, ST.out⟩
              case measure => simp [intOf]; omega
    · obtain rfl : k = l.length := by omega
      have EV : Hid (RQ rows = clipQ l lo hi) := by show _ = _; unfold clipQ; rw [← hct.out]
      have ST := Lib.hid hst.out
      clear hst hct k4
      go_wp2
      exact HR.out _ rows _ ST.out.op EV.out (fun x hx => ⟨(ST.out.each x hx).into fun _ _ => trivial, fun p hp => (ST.out.vals x hx p hp).into fun _ _ => trivial⟩) ST.out.gr
end Go.Proofs.Ytjcgkhcbdbbdkaa
