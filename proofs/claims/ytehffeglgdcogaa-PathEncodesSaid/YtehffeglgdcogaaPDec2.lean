/-
  path.Decode.
-/
import Derived.Test.YtehffeglgdcogaaChecked
import Derived.Test.YtehffeglgdcogaaPDec
import Derived.Test.YtehffeglgdcogaaLexTD
import Derived.Test.YtehffeglgdcogaaRowsOwn
namespace Go.Proofs.Ytehffeglgdcogaa
open Go.RowKit B

theorem el_prow : Elem Try.prog 40 75 (.slice none 0 0) 1 24 := ⟨by kernel_rfl, by kernel_rfl, rfl, by decide, by decide⟩
def preR (ps : List (List Pt)) : Except Int (List (List Pt)) → Except Int (List (List Pt))
  | .error e => .error e
  | .ok qs => .ok (ps ++ qs)
theorem preR_app (ps qs : List (List Pt)) (r : Except Int (List (List Pt))) : preR ps (preR qs r) = preR (ps ++ qs) r := by
  cases r with
  | error e => rfl
  | ok v => simp [preR]
theorem decG_err {f : Nat} {kind : Int} {a : Pt} {l : List Int} {e : Int} (h : pathS kind a l = .error e) : decG (f + 1) kind a l = .error e := by simp only [decG]; rw [h]
theorem decG_more {f : Nat} {kind : Int} {a : Pt} {l r : List Int} {j : Nat} {p : List Pt} (h : pathS kind a l = .ok (p, r.drop j)) (hj : j < r.length) : decG (f + 1) kind a l = preR [p] (decG f kind (lastPt a p) (r.drop j)) := by
  simp only [decG]
  rw [h, List.drop_eq_getElem_cons hj]
  dsimp only
  cases decG f kind (lastPt a p) (r[j] :: r.drop (j + 1)) with
  | error e => rfl
  | ok v => rfl
theorem decG_last {f : Nat} {kind : Int} {a : Pt} {l r : List Int} {j : Nat} {p : List Pt} (h : pathS kind a l = .ok (p, r.drop j)) (hj : r.length ≤ j) : decG (f + 1) kind a l = .ok [p] := by
  simp only [decG]
  rw [h, List.drop_eq_nil_of_le hj]

theorem hmf : ∀ (fn : Fn) (first cap : Array Value) (w : World), (Instr.makeFunc fn first cap).run Try.prog w = .ok (.func fn first cap) w := fun _ _ _ _ => rfl

/-- what Decode hands back -/
def DecH (kind : Int) (l : List Int) (w : World) (R : Ending → World → Prop) : Prop :=
  (∀ e, decS kind l = .error e → ∀ w', Grow w w' → R (.returned (.tuple #[.slice none 0 0, .int .i64 e])) w') ∧
  (∀ (rows : List PRow), decS kind l = .ok (rows.map PRow.l) → ∀ v w', w'.ownsRow w.heap.size 75 1 v rows.length (rows.map PRow.v) → (∀ r ∈ rows, r.rd w' (fun b => w.heap.size ≤ b)) → Grow w w' → R (.returned (.tuple #[v, .int .i64 0])) w')

set_option maxRecDepth 100000 in
set_option maxHeartbeats 400000 in
theorem res35 (pb qb : Nat) (v e : Value) (W : World) (tmps : Array Value) (h4 : tmps.getD 4 undef = .pointer (some ⟨pb, 0, none⟩)) (h5 : tmps.getD 5 undef = .pointer (some ⟨qb, 0, none⟩))
    (hv : W.cell? ⟨pb, 0, none⟩ = some v) (he : W.cell? ⟨qb, 0, none⟩ = some e) : (results Try.f35 tmps).run Try.prog W = .ok (.tuple #[v, e]) W := by
  have h4' : tmps[4]?.getD undef = .pointer (some ⟨pb, 0, none⟩) := by simpa using h4
  have h5' : tmps[5]?.getD undef = .pointer (some ⟨qb, 0, none⟩) := by simpa using h5
  simp [results, Try.results35, go_sem, h4', h5', hv, he]
def off35 (d : Option Tmp) : Bool := d != some 4 && d != some 5
set_option maxRecDepth 100000 in
set_option maxHeartbeats 400000 in
theorem put35 {R : Ending → World → Prop} (c : List PanicEntry) (a : Act) (d : Option Tmp) (v : Value) (w : World) (hd : off35 d = true) (h : bodyPostD Try.prog Try.f35 R (.panic c) (a.put d v) w) : bodyPostD Try.prog Try.f35 R (.panic c) a w := by
  cases d with
  | none => exact h
  | some d =>
    have e : results Try.f35 (a.tmps.setIfInBounds d v) = results Try.f35 a.tmps := by
      have h4 : d ≠ 4 := fun e => by rw [e] at hd; cases hd
      have h5 : d ≠ 5 := fun e => by rw [e] at hd; cases hd
      have e4 : (a.tmps.setIfInBounds d v)[4]? = a.tmps[4]? := Array.getElem?_setIfInBounds_ne h4
      have e5 : (a.tmps.setIfInBounds d v)[5]? = a.tmps[5]? := Array.getElem?_setIfInBounds_ne h5
      simp [results, Try.results35, e4, e5]
    have h1 : Leaves Try.prog Try.f35 (a.tmps.setIfInBounds d v) R a.defers (.panicking c) w := h
    show Leaves _ _ _ _ _ _ _
    rw [← leaves_same e]
    exact h1
set_option maxRecDepth 100000 in
set_option maxHeartbeats 1000000 in
theorem door_stop {tmps : Array Value} {R : Ending → World → Prop} (pb qb : Nat) (v ev : Value) (e0 : Int) (w0 w : World) (hp : BoxH w0 pb #[v] 40 w) (hq : BoxH w0 qb #[ev] 25 w) (hne : pb ≠ qb)
    (h4 : tmps.getD 4 undef = .pointer (some ⟨pb, 0, none⟩)) (h5 : tmps.getD 5 undef = .pointer (some ⟨qb, 0, none⟩)) (hR : ∀ w', Grow w0 w' → R (.returned (.tuple #[.slice none 0 0, .int .i64 e0])) w') :
    bodyPostD Try.prog Try.f35 R (.panic (stopE e0)) { tmps := tmps, defers := [{ target := .fn (.func 53) #[.pointer (some ⟨pb, 0, none⟩), .pointer (some ⟨qb, 0, none⟩)], args := #[] }] } w := by
  show Leaves _ _ _ _ _ _ _
  refine leaves_cons (f := 53) (args := #[.pointer (some ⟨pb, 0, none⟩), .pointer (some ⟨qb, 0, none⟩)]) (by simp) (by simp [go_sem]) ?_
  refine (catch_stop pb qb v ev e0 w0 w hp hq hne).mono ?_
  rintro e u' w'' ⟨rfl, rfl, hP, hQ⟩
  exact ⟨_, res35 pb qb _ _ _ _ h4 h5 (hP.cell 0) (hQ.cell 0), hR _ hP.grow⟩
theorem door_ret {tmps : Array Value} {R : Ending → World → Prop} (pb qb : Nat) (v ev : Value) (w0 w : World) (hp : BoxH w0 pb #[v] 40 w) (hq : BoxH w0 qb #[ev] 25 w)
    (h4 : tmps.getD 4 undef = .pointer (some ⟨pb, 0, none⟩)) (h5 : tmps.getD 5 undef = .pointer (some ⟨qb, 0, none⟩)) (hR : ∀ w', Grow w w' → R (.returned (.tuple #[v, ev])) w') :
    bodyPostD Try.prog Try.f35 R .ret { tmps := tmps, defers := [{ target := .fn (.func 53) #[.pointer (some ⟨pb, 0, none⟩), .pointer (some ⟨qb, 0, none⟩)], args := #[] }] } w := by
  show Leaves _ _ _ _ _ _ _
  refine leaves_cons (f := 53) (args := #[.pointer (some ⟨pb, 0, none⟩), .pointer (some ⟨qb, 0, none⟩)]) (by simp) (by simp [go_sem]) ?_
  refine (catch_idle ⟨pb, 0, none⟩ ⟨qb, 0, none⟩ w).mono ?_
  rintro e u' w'' ⟨rfl, rfl, hg⟩
  exact ⟨_, res35 pb qb _ _ _ _ h4 h5 ((hp.tr hg).cell 0) ((hq.tr hg).cell 0), hR _ hg⟩
theorem Rd.put {w : World} {S : Nat → Prop} {size n bb j : Nat} {v u : Value} {xs : List Value} (h : Rd w S size v n xs) (h0 : 0 < size) (hS : ∀ b, S b → b ≠ bb) : Rd (w.setCell ⟨bb, j, none⟩ u) S size v n xs :=
  h.by_ h0 (by_set (Grow.refl w) bb j u) (fun b hb e => hS b hb (by injection e))
/-- above rb, and not in v's block -/
def Fr (rb : Nat) (v : Value) : Nat → Prop := fun b => rb < b ∧ some b ≠ v.ownBlock
theorem Fr.one {w w' : World} {rb : Nat} {v v' : Value} {r : PRow} (h : r.rd w (Fr rb v)) (hg : w.grownBy w' v.ownBlock) (hb : v'.ownBlock = v.ownBlock ∨ v'.ownBlock = some (w.heap.size + 1)) : r.rd w' (Fr rb v') := by
  have h1 := (Rd.and_lt h (by decide)).by_ (by decide) hg (fun b hb => hb.1.2)
  refine h1.into fun b hb1 => ⟨hb1.1.1, ?_⟩
  rcases hb with hb | hb
  · rw [hb]; exact hb1.1.2
  · rw [hb]
    intro e
    injection e with e
    omega
theorem Fr.app {w w' : World} {rb : Nat} {v v' : Value} {rows : List PRow} {r : PRow} (h : ∀ r ∈ rows, r.rd w (Fr rb v)) (hr : r.rd w (Fr rb v)) (hg : w.grownBy w' v.ownBlock) (hb : v'.ownBlock = v.ownBlock ∨ v'.ownBlock = some (w.heap.size + 1)) : ∀ q ∈ rows ++ [r], q.rd w' (Fr rb v') := by
  intro q hq
  rcases List.mem_append.1 hq with hq | hq
  · exact Fr.one (h q hq) hg hb
  · rw [List.mem_singleton.1 hq]; exact Fr.one hr hg hb
theorem Fr.put {w : World} {rb k j : Nat} {v u : Value} {r : PRow} (h : r.rd w (Fr rb v)) (hk : k ≤ rb) : r.rd (w.setCell ⟨k, j, none⟩ u) (Fr rb v) := Rd.put h (by decide) (fun b hb => by have := hb.1; omega)

theorem dec_fin {tmps : Array Value} {R : Ending → World → Prop} {kind : Int} {l : List Int} {pb qb rb : Nat} {rows : List PRow} {v : Value} {w W : World} (HR : DecH kind l w R) (hd : decS kind l = .ok (rows.map PRow.l))
    (hpb : w.heap.size ≤ pb) (hqb : pb < qb) (hrb : qb < rb) (BP : BoxH w pb #[v] 40 W) (BQ : BoxH w qb #[.int .i64 0] 25 W) (O : W.ownsRow w.heap.size 75 1 v rows.length (rows.map PRow.v))
    (NE : ∀ k, k ≤ rb → v.ownBlock ≠ some k) (RS : ∀ r ∈ rows, r.rd W (Fr rb v)) (h4 : tmps.getD 4 undef = .pointer (some ⟨pb, 0, none⟩)) (h5 : tmps.getD 5 undef = .pointer (some ⟨qb, 0, none⟩)) :
    bodyPostD Try.prog Try.f35 R .ret { tmps := tmps, defers := [{ target := .fn (.func 53) #[.pointer (some ⟨pb, 0, none⟩), .pointer (some ⟨qb, 0, none⟩)], args := #[] }] } ((W.setCell ⟨pb, 0, none⟩ v).setCell ⟨qb, 0, none⟩ (.int .i64 0)) := by
  have B1 : BoxH w pb #[v] 40 ((W.setCell ⟨pb, 0, none⟩ v).setCell ⟨qb, 0, none⟩ (.int .i64 0)) := (BP.set 0 v).other (by omega) (by omega)
  have B2 : BoxH w qb #[.int .i64 0] 25 ((W.setCell ⟨pb, 0, none⟩ v).setCell ⟨qb, 0, none⟩ (.int .i64 0)) := (BQ.other (j := 0) (v := v) (cc := pb) (by omega) (by omega)).set 0 (.int .i64 0)
  refine door_ret pb qb v (.int .i64 0) w _ B1 B2 h4 h5 ?_
  intro w' hg
  refine HR.2 rows hd v w' (own_grow (own_set (own_set O (NE pb (by omega))) (NE qb (by omega))) hg) ?_ (B1.grow.tr hg)
  intro r hr
  exact ((Fr.put (k := qb) (j := 0) (u := .int .i64 0) (Fr.put (k := pb) (j := 0) (u := v) (RS r hr) (by omega)) (by omega) : Rd _ _ _ _ _ _).gr2 (by decide) hg).into fun b hb => by have := hb.1; have := B1.grow.size; omega
set_option maxRecDepth 100000 in
set_option maxHeartbeats 4000000 in
theorem decode_bad (kind : Int) (l : List Int) (lv : Value) (w : World) (hk : ¬ (1 ≤ kind ∧ kind ≤ 3)) {R : Ending → World → Prop} (hR : DecH kind l w R) :
    Calls Try.prog 35 #[.int .i64 kind, lv] w R := by
  have HR := Lib.hid (hR.1 1 (by unfold decS; rw [if_pos (by omega)]))
  clear hR
  have t0 : (decide (1 ≤ kind) && decide (kind ≤ 3)) = false := by simp; omega
  have T0 := Lib.hid t0
  have hmf := hmf
  clear t0
  go_enter_defers Try.func35, Try.ntmps35
  go_wp2_with fail
  go_at_call 52
  refine known_any _ _ ?_
  rw [T0.out]
  go_wp2
  exact ⟨_, res35 w.heap.size (w.heap.size + 1) (.slice none 0 0) (.int .i64 1) _ _ rfl rfl (by simp) (by simp), HR.out _ (((Grow.refl w).al _).al _)⟩


set_option maxRecDepth 100000 in
set_option maxHeartbeats 4000000 in
theorem decode_one (l : List Int) (lv : Value) (S : Nat → Prop) (w : World) (hl : Rd w S 1 lv l.length (U32 l)) (hu : ∀ x ∈ l, 0 ≤ x ∧ x ≤ 4294967295) (hlen : l.length ≤ 1000) {R : Ending → World → Prop} (hR : DecH 1 l w R) :
    Calls Try.prog 35 #[.int .i64 1, lv] w R := by
  have hl := hl.lt (by decide)
  have HR := Lib.hid hR
  have hmf := hmf
  have HL := Lib.hid hl
  have HU := Lib.hid hu
  obtain ⟨_, A, c, rfl, h1, h2, h3, h4⟩ := hl
  unfold maxLen at h2
  clear hR h3 h4 hu
  have BP := Lib.hid (((BoxH.laid #[.slice none 0 0] 40 (Grow.refl w)).tr ((Grow.refl _).al (.cells #[.int .i64 0] 25))).tr ((Grow.refl _).al (.cells #[.slice A l.length c, .int .i64 0, .int .i64 0, .int .i64 0] 87)))
  have BQ : Hid (BoxH w (w.heap.size + 1) #[.int .i64 0] 25 (((w.alloc (.cells #[.slice none 0 0] 40)).alloc (.cells #[.int .i64 0] 25)).alloc (.cells #[.slice A l.length c, .int .i64 0, .int .i64 0, .int .i64 0] 87))) := by
    have := ((BoxH.laid (w := w.alloc (.cells #[.slice none 0 0] 40)) #[.int .i64 0] 25 ((Grow.refl w).al _)).tr ((Grow.refl _).al (.cells #[.slice A l.length c, .int .i64 0, .int .i64 0, .int .i64 0] 87)))
    rw [World.size_alloc] at this
    exact this
  have BR : Hid (RdrB w (w.heap.size + 2) (.slice A l.length c) 0 ⟨0, 0⟩ (((w.alloc (.cells #[.slice none 0 0] 40)).alloc (.cells #[.int .i64 0] 25)).alloc (.cells #[.slice A l.length c, .int .i64 0, .int .i64 0, .int .i64 0] 87))) := by
    have := (BoxH.laid (w := (w.alloc (.cells #[.slice none 0 0] 40)).alloc (.cells #[.int .i64 0] 25)) #[.slice A l.length c, .int .i64 0, .int .i64 0, .int .i64 0] 87 (((Grow.refl w).al _).al _))
    rw [World.size_alloc, World.size_alloc] at this
    exact this
  go_enter_defers Try.func35, Try.ntmps35
  go_wp2_with fail
  go_at_call 52
  refine known_any _ _ ?_
  go_wp2_with fail
  generalize ((w.alloc (.cells #[.slice none 0 0] 40)).alloc (.cells #[.int .i64 0] 25)).alloc (.cells #[.slice A l.length c, .int .i64 0, .int .i64 0, .int .i64 0] 87) = wa at *
  rw [show w.heap.size + 2 = w.heap.size + 1 + 1 from rfl] at BR
  have PO := Lib.hid fun k low high j b W (h : RdrB w (w.heap.size + 1 + 1) (.slice A l.length c) j b W) (hn : Near b) (R : Ending → World → Prop) hE hR => points_any k low high l (.slice A l.length c) (w.heap.size + 1 + 1) j b w W h HL.out HU.out hn hlen (R := R) hE hR
  have N0 : Hid (w.heap.size < w.heap.size + 1 ∧ w.heap.size + 1 < w.heap.size + 1 + 1) := ⟨by omega, by omega⟩
  generalize w.heap.size + 1 = qb at *
  generalize qb + 1 = rb at *
  refine wp_region_lexTD (fun W => BoxH w w.heap.size #[.slice none 0 0] 40 W) (BP.out.tr (Grow.refl _).dr) 4 [0, 1, 2, 3] (off35) (by kernel_rfl) (by kernel_rfl) (by kernel_rfl) (fun c a d v w hd h => put35 c a d v w hd h) ?_
  iterate 1 (apply lext_take; exact rfl; exact rfl; (intro W hW; have y := hW.cell 0; (try clear hW); go_simp; with_reducible rfl); try simp only [Act.put, List.setIfInBounds_toArray, List.set_cons_zero, List.set_cons_succ])
  iterate 1 (apply lext_take; exact rfl; exact rfl; (intro W hW; (try clear hW); go_simp; with_reducible rfl); try simp only [Act.put, List.setIfInBounds_toArray, List.set_cons_zero, List.set_cons_succ])
  apply lext_turn; exact rfl; exact rfl; exact rfl; intro K hK; go_simp; go_at_call 54; refine PO.out 1 1 536870912 0 ⟨0, 0⟩ _ (BR.out.tr (Grow.refl _).dr) ⟨⟨by decide, by decide⟩, by decide, by decide⟩ _ ?_ ?_
  · intro e he w' hg'
    refine door_stop w.heap.size qb (.slice none 0 0) (.int .i64 0) e w w' ?_ ?_ ?_ rfl rfl ?_
    · exact (BP.out.tr (Grow.refl _).dr).by_ hg' (fun k hk => by injection hk with hk; have := N0.out; omega) (fun e => by injection e with e; have := N0.out; omega)
    · exact (BQ.out.tr (Grow.refl _).dr).by_ hg' (fun k hk => by injection hk with hk; have := N0.out; omega) (fun e => by injection e with e; have := N0.out; omega)
    · have := N0.out; omega
    · intro w3 hg3
      refine HR.out.1 e ?_ w3 hg3
      unfold decS
      rw [if_neg (by omega), if_pos rfl]
      unfold dec1
      rw [List.drop_zero] at he
      rw [show cmdS 1 1 536870912 ⟨0, 0⟩ l = .error e from he]
  · intro ps j hps hj v1 w1 hB1 hO1 hg1 hn1
    have B1 := Lib.hid hB1
    have O1 := Lib.hid hO1
    have J := Lib.hid hj
    have PS := Lib.hid hps
    have BP1 := Lib.hid ((BP.out.tr (Grow.refl _).dr).by_ hg1 (fun k hk => by injection hk with hk; have := N0.out; omega) (fun e => by injection e with e; have := N0.out; omega))
    have BQ1 := Lib.hid ((BQ.out.tr (Grow.refl _).dr).by_ hg1 (fun k hk => by injection hk with hk; have := N0.out; omega) (fun e => by injection e with e; have := N0.out; omega))
    obtain ⟨X1, cc1, hv1⟩ := own_slice hO1
    subst hv1
    refine hK.out _ _ BP1.out ?_
    have WA : Hid (rb < wa.drew.heap.size) := (BR.out : BoxH w rb _ _ wa).lt
    clear hK hB1 hO1 hg1 hn1 hj hps BP BQ BR PO
    try simp only [Act.put, List.setIfInBounds_toArray, List.set_cons_zero, List.set_cons_succ]
    apply lext_turn; exact rfl; exact rfl; exact rfl; intro K hK; go_simp; refine hK.out _ _ (BP1.out.tr ((Grow.refl _).al _)) ?_; clear hK; try simp only [Act.put, List.setIfInBounds_toArray, List.set_cons_zero, List.set_cons_succ]
    refine lext_nil ?_
    simp only [List.drop_succ_cons, List.drop_zero]
    have LJ := Lib.hid (cmdS_lenL PS.out)
    have SZ : Hid (rb < w1.heap.size) := (B1.out : BoxH w rb _ _ w1).lt
    have R1 : Hid (PRow.rd w1 (Fr rb (.slice none 0 0)) ⟨.slice X1 ps.length cc1, ps⟩) := (Rd.own_from O1.out).into fun b hb => ⟨by have := WA.out; omega, by intro e; cases e⟩
    by_cases hjl : j < l.length
    · have t1 : decide (j < l.length) = true := decide_eq_true hjl
      have HD : Hid (decS 1 l = .error 3) := by
        show _ = _
        unfold decS
        rw [if_neg (by omega), if_pos rfl]
        unfold dec1
        rw [show cmdS 1 1 536870912 ⟨0, 0⟩ l = .ok (ps, l.drop j) from PS.out, List.drop_eq_getElem_cons hjl]
      clear hjl
      go_wp2_with (at_builtin; refine wpList_new (w0 := w) rfl _ _ rfl el_prow (World.ownsRow_nil w1 w.heap.size 75 1) rfl 1 _ rfl (by decide) rfl (by simp [Value.oneCell']) (by decide) BP1.out.grow ⟨Nat.le_refl _, BP1.out.grow.size⟩ ?_; intro v4 w4 hown4 hg4 hgr4 hb4; obtain ⟨X4, cc4, hv4⟩ := own_slice hown4; subst hv4; have O4 := Lib.hid hown4; have R4 := Lib.hid (Fr.app (rows := []) (fun r hr => by cases hr) R1.out hgr4 hb4); have BP4 := Lib.hid (BP1.out.by_ hgr4 (fun k hk => by cases hk) (fun e => by cases e)); have BQ4 := Lib.hid (BQ1.out.by_ hgr4 (fun k hk => by cases hk) (fun e => by cases e)); have BR4 := Lib.hid ((B1.out : BoxH w rb _ _ w1).by_ hgr4 (fun k hk => by cases hk) (fun e => by cases e)); have NE4 : Hid (∀ k, k ≤ rb → (Value.slice X4 (0 + 1) cc4).ownBlock ≠ some k) := (fun k hk e => by rcases hb4 with h | h <;> rw [h] at e <;> cases e; have := SZ.out; omega); have p4 := BP4.out.cell 0; have f4 := BP4.out.free 0; have BP5 := Lib.hid (BP4.out.set 0 (.slice X4 (0 + 1) cc4)); have BQ5 := Lib.hid (BQ4.out.other (j := 0) (v := .slice X4 (0 + 1) cc4) (cc := w.heap.size) (by have := N0.out; omega) (Nat.le_refl _)); have BR5 := Lib.hid (BR4.out.other (j := 0) (v := .slice X4 (0 + 1) cc4) (cc := w.heap.size) (by have := N0.out; omega) (Nat.le_refl _)); have r5 := BR5.out.cell 1; have p5 := BP5.out.cell 0; have fp5 := BP5.out.free 0; have q5 := BQ5.out.cell 0; have fq5 := BQ5.out.free 0; have n1 : qb ≠ w.heap.size := (by have := N0.out; omega); have n2 : w.heap.size ≠ qb := (by have := N0.out; omega); clear hown4 hg4 hgr4 hb4)
      refine door_ret w.heap.size qb (.slice none 0 0) (.int .i64 3) w _ ((BP5.out.set 0 (.slice none 0 0)).other (j := 0) (v := .int .i64 3) (cc := qb) n2 (by have := N0.out; omega)) ((BQ5.out.other (j := 0) (v := .slice none 0 0) (cc := w.heap.size) n1 (Nat.le_refl _)).set 0 (.int .i64 3)) rfl rfl ?_
      intro w' hg'
      exact HR.out.1 3 HD.out w' (((BP5.out.set 0 (.slice none 0 0)).other (j := 0) (v := .int .i64 3) (cc := qb) n2 (by have := N0.out; omega)).grow.tr hg')
    · have t1 : decide (j < l.length) = false := decide_eq_false hjl
      have HD : Hid (decS 1 l = .ok [ps]) := by
        show _ = _
        unfold decS
        rw [if_neg (by omega), if_pos rfl]
        unfold dec1
        rw [show cmdS 1 1 536870912 ⟨0, 0⟩ l = .ok (ps, l.drop j) from PS.out, List.drop_eq_nil_of_le (by omega)]
      clear hjl
      go_wp2_with (at_builtin; refine wpList_new (w0 := w) rfl _ _ rfl el_prow (World.ownsRow_nil w1 w.heap.size 75 1) rfl 1 _ rfl (by decide) rfl (by simp [Value.oneCell']) (by decide) BP1.out.grow ⟨Nat.le_refl _, BP1.out.grow.size⟩ ?_; intro v4 w4 hown4 hg4 hgr4 hb4; obtain ⟨X4, cc4, hv4⟩ := own_slice hown4; subst hv4; have O4 := Lib.hid hown4; have R4 := Lib.hid (Fr.app (rows := []) (fun r hr => by cases hr) R1.out hgr4 hb4); have BP4 := Lib.hid (BP1.out.by_ hgr4 (fun k hk => by cases hk) (fun e => by cases e)); have BQ4 := Lib.hid (BQ1.out.by_ hgr4 (fun k hk => by cases hk) (fun e => by cases e)); have BR4 := Lib.hid ((B1.out : BoxH w rb _ _ w1).by_ hgr4 (fun k hk => by cases hk) (fun e => by cases e)); have NE4 : Hid (∀ k, k ≤ rb → (Value.slice X4 (0 + 1) cc4).ownBlock ≠ some k) := (fun k hk e => by rcases hb4 with h | h <;> rw [h] at e <;> cases e; have := SZ.out; omega); have p4 := BP4.out.cell 0; have f4 := BP4.out.free 0; have BP5 := Lib.hid (BP4.out.set 0 (.slice X4 (0 + 1) cc4)); have BQ5 := Lib.hid (BQ4.out.other (j := 0) (v := .slice X4 (0 + 1) cc4) (cc := w.heap.size) (by have := N0.out; omega) (Nat.le_refl _)); have BR5 := Lib.hid (BR4.out.other (j := 0) (v := .slice X4 (0 + 1) cc4) (cc := w.heap.size) (by have := N0.out; omega) (Nat.le_refl _)); have r5 := BR5.out.cell 1; have p5 := BP5.out.cell 0; have fp5 := BP5.out.free 0; have q5 := BQ5.out.cell 0; have fq5 := BQ5.out.free 0; have n1 : qb ≠ w.heap.size := (by have := N0.out; omega); have n2 : w.heap.size ≠ qb := (by have := N0.out; omega); clear hown4 hg4 hgr4 hb4)
      exact dec_fin (rows := [PRow.mk (.slice X1 ps.length cc1) ps]) HR.out HD.out (Nat.le_refl _) N0.out.1 N0.out.2 BP5.out BQ5.out (own_set O4.out (NE4.out _ (by have := N0.out; omega))) NE4.out (fun r hr => Fr.put (R4.out r hr) (by have := N0.out; omega)) rfl rfl
end Go.Proofs.Ytehffeglgdcogaa
