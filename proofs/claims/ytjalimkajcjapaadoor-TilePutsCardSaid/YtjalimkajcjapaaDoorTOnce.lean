/-
  Tiles got of bytes: tile.once.
-/
import Derived.Test.YtjalimkajcjapaaDoorChecked
import Derived.Test.YtjalimkajcjapaaDoorTDict
import Derived.Test.YtjalimkajcjapaaDoorTSame
import Derived.Test.YtjalimkajcjapaaDoorWireA
namespace Go.Proofs.YtjalimkajcjapaaDoor
open Go.RowKit B

/-- a table of numbers -/
def tabL (T : List (Int × Int)) (n : Int) : Option Int := (T.find? fun p => decide (p.1 = n)).map Prod.snd
def tabF (T : List (Int × Int)) : Value → Option Value
  | .int .i64 n => (tabL T n).map (Value.int .i64)
  | _ => none
def fldC (f : Fld) : Value := .agg f.cells.toArray
def fldF (L : List Fld) : Value → Option Value
  | .int .i64 n => (L.find? fun f => decide (f.num = n)).map fldC
  | _ => none
theorem intKey {a : Int} (h : I64 a) : ∃ kl, keyOf Tryd.prog 3 (.int .i64 a) = some kl :=
  int_key Tryd.underlying3 (by simp only [Lit.wf, Bool.and_eq_true, decide_eq_true_eq]; exact ⟨h.1, h.2⟩)
/-- a table that lies in a map, or a nil map -/
def IMap (w : World) (v : Value) (T : List (Int × Int)) : Prop := (v = .map none ∧ T = []) ∨ ∃ b n, v = .map (some b) ∧ MapF Tryd.prog 3 w b n (tabF T)
theorem IMap.gr {w w' : World} {v : Value} {T : List (Int × Int)} (h : IMap w v T) (hg : Grow w w') : IMap w' v T := by
  rcases h with h | ⟨b, n, h1, h2⟩
  · exact .inl h
  · exact .inr ⟨b, n, h1, h2.gr hg⟩
theorem IMap.look {w : World} {v : Value} {T : List (Int × Int)} (h : IMap w v T) {a : Int} (ha : I64 a) : (Instr.lookup 103 v (.int .i64 a) true).run Tryd.prog w = .ok (.tuple #[.int .i64 ((tabL T a).getD 0), .bool (tabL T a).isSome]) w := by
  rcases h with ⟨rfl, rfl⟩ | ⟨b, n, rfl, h2⟩
  · exact look_nilmap keyI Tryd.underlying103 (zeroI w) (intKey ha) true
  · have := h2.look keyI Tryd.underlying103 (zeroI w) (intKey ha) true
    rw [this]
    unfold tabF
    dsimp only
    cases tabL T a <;> simp
theorem wpList_ilook (w : World) {ops : Array Oper} {rest : List Oper} {o : Oper} {a : Act} {Q : Exit → Act → World → Prop} (hg : o.guard = none) (m x : Operand) (ho : o.op = .lookup 103 m x true) {mv : Value} {T : List (Int × Int)} (h : IMap w mv T) (hm : a.eval m = mv)
    {n : Int} (hx : a.eval x = .int .i64 n) (hn : I64 n) {v : Int} {ok : Bool} (hv : (tabL T n).getD 0 = v) (hok : (tabL T n).isSome = ok)
    (hK : wpList Tryd.prog ops Q rest (a.put o.dst (.tuple #[.int .i64 v, .bool ok])) w) : wpList Tryd.prog ops Q (o :: rest) a w := by
  refine wpList_plain hg fun K' hK' => ?_
  have := h.look hn
  rw [hv, hok] at this
  have e : (execOp a.eval o).run Tryd.prog w = .ok (.value (.tuple #[.int .i64 v, .bool ok])) w := by
    unfold execOp
    simp only [ho, hm, hx, Sem.run_bind, Sem.run_pure, Result.andThen_ok, this]
  unfold Oper.wp
  rw [e]
  exact hK' _ _ hK
theorem wpList_ins {P : Program} (w : World) {ops : Array Oper} {rest : List Oper} {o : Oper} {a : Act} {Q : Exit → Act → World → Prop} (hg : o.guard = none) (t : TypeId) (m x v : Operand) (ho : o.op = .insert t m x v) {k e : TypeId} {b n : Nat} {f : Value → Option Value} (h : MapF P k w b n f) (hm : a.eval m = .map (some b))
    (K : Maps.Keyed P k) (ht : P.underlying t = some (.map k e)) (hn : n < maxLen) {key val : Value} (hkey : a.eval x = key) (hval : a.eval v = val) (hx : ∃ kl, keyOf P k key = some kl) {f' : Value → Option Value} (h1 : f' key = some val) (h2 : ∀ y, y ≠ key → f' y = f y)
    (hK : ∀ w', MapF P k w' b (n + 1) f' → w.grownBy w' (some b) → wpList P ops Q rest (a.put o.dst undef) w') : wpList P ops Q (o :: rest) a w := by
  refine wpList_plain hg fun K' hK' => ?_
  obtain ⟨w', hr, r1, r2⟩ := h.upd K ht hn hx h1 h2
  subst hkey
  subst hval
  unfold Oper.wp
  simp [execOp, ho, hm, hr, Result.andThen]
  exact hK' _ _ (hK w' r1 r2)
theorem tabF_snoc {T : List (Int × Int)} {k v : Int} (h : tabL T k = none) : tabF (T ++ [(k, v)]) (.int .i64 k) = some (.int .i64 v) ∧ ∀ y, y ≠ .int .i64 k → tabF (T ++ [(k, v)]) y = tabF T y := by
  have hf : T.find? (fun p => decide (p.1 = k)) = none := by
    unfold tabL at h
    cases hh : T.find? (fun p => decide (p.1 = k)) with
    | none => rfl
    | some p => rw [hh] at h; cases h
  constructor
  · unfold tabF tabL
    dsimp only
    rw [List.find?_append, hf]
    simp
  · intro y hy
    unfold tabF
    split
    · rename_i n
      have hne : ¬ k = n := fun e => hy (by rw [e])
      unfold tabL
      rw [List.find?_append]
      cases T.find? (fun p => decide (p.1 = n)) <;> simp [hne]
    · rfl
theorem tabF_nil : tabF [] = fun _ => none := by
  funext v
  unfold tabF
  split <;> rfl
theorem zeroFld (w : World) : (zeroValue 51).run Tryd.prog w = .ok (.agg #[.int .i64 0, .int .i64 0, .int .u64 0, .slice none 0 0]) w := by kernel_rfl

def inT (T M : List (Int × Int)) (f : Fld) : Bool := (tabL M f.num).isNone && (tabL T f.num).isSome
/-- each field of a listed number is of its kind; those that count stand once -/
def OnceOk (T M : List (Int × Int)) (l : List Fld) : Prop :=
  (∀ f ∈ l, ∀ k, tabL M f.num = some k → f.kind = k) ∧ (∀ f ∈ l, tabL M f.num = none → ∀ k, tabL T f.num = some k → f.kind = k) ∧ ((l.filter (inT T M)).map Fld.num).Nodup
theorem OnceOk.pre {T M : List (Int × Int)} {l m : List Fld} (h : OnceOk T M (l ++ m)) : OnceOk T M l := by
  obtain ⟨h1, h2, h3⟩ := h
  rw [List.filter_append, List.map_append] at h3
  exact ⟨fun f hf => h1 f (by simp [hf]), fun f hf => h2 f (by simp [hf]), (List.nodup_append.1 h3).1⟩
theorem OnceOk.take {T M : List (Int × Int)} {l : List Fld} (h : OnceOk T M l) (k : Nat) : OnceOk T M (l.take k) := by
  rw [← List.take_append_drop k l] at h
  exact h.pre
theorem once_snoc {T M : List (Int × Int)} {l : List Fld} {f : Fld} (h : OnceOk T M l) : OnceOk T M (l ++ [f]) ↔
    (∀ k, tabL M f.num = some k → f.kind = k) ∧ (tabL M f.num = none → ∀ k, tabL T f.num = some k → f.kind = k ∧ ∀ g ∈ l.filter (inT T M), g.num ≠ f.num) := by
  obtain ⟨h1, h2, h3⟩ := h
  constructor
  · rintro ⟨k1, k2, k3⟩
    refine ⟨k1 f (by simp), fun hm k ht => ⟨k2 f (by simp) hm k ht, fun g hg e => ?_⟩⟩
    rw [List.filter_append, List.map_append, List.nodup_append] at k3
    have hin : inT T M f = true := by unfold inT; rw [hm, ht]; rfl
    rw [List.filter_cons, if_pos hin] at k3
    exact k3.2.2 g.num (List.mem_map.2 ⟨g, hg, rfl⟩) f.num (by simp) e
  · rintro ⟨k1, k2⟩
    refine ⟨fun g hg => ?_, fun g hg => ?_, ?_⟩
    · rcases List.mem_append.1 hg with hg | hg
      · exact h1 g hg
      · rw [List.mem_singleton.1 hg]; exact k1
    · rcases List.mem_append.1 hg with hg | hg
      · exact h2 g hg
      · rw [List.mem_singleton.1 hg]; exact fun hm k ht => (k2 hm k ht).1
    · rw [List.filter_append, List.map_append, List.nodup_append]
      refine ⟨h3, ?_, fun a ha b hb e => ?_⟩
      · rw [List.filter_cons]; split <;> simp
      · rw [List.filter_cons] at hb
        split at hb
        · rename_i hin
          simp only [List.filter_nil, List.map_cons, List.map_nil, List.mem_singleton] at hb
          subst hb
          unfold inT at hin
          simp only [Bool.and_eq_true, Option.isNone_iff_eq_none, Option.isSome_iff_exists] at hin
          obtain ⟨hm, k, ht⟩ := hin
          obtain ⟨g, hg, rfl⟩ := List.mem_map.1 ha
          exact (k2 hm k ht).2 g hg e
        · simp at hb
theorem fldF_snoc {L : List Fld} {f : Fld} (h : ∀ g ∈ L, g.num ≠ f.num) : fldF (L ++ [f]) (.int .i64 f.num) = some (fldC f) ∧ ∀ y, y ≠ .int .i64 f.num → fldF (L ++ [f]) y = fldF L y := by
  constructor
  · unfold fldF
    dsimp only
    have e : L.find? (fun g => decide (g.num = f.num)) = none := by
      rw [List.find?_eq_none]
      intro g hg
      simpa using h g hg
    rw [List.find?_append, e]
    simp
  · intro y hy
    unfold fldF
    split
    · rename_i n
      have hne : ¬ f.num = n := fun e => hy (by rw [e])
      rw [List.find?_append]
      cases L.find? (fun g => decide (g.num = n)) <;> simp [hne]
    · rfl
theorem find_none {L : List Fld} {n : Int} (h : L.find? (fun f => decide (f.num = n)) = none) : ∀ g ∈ L, g.num ≠ n := fun g hg => by
  have := List.find?_eq_none.1 h g hg
  simpa using this

set_option maxRecDepth 100000 in
set_option maxHeartbeats 4000000 in
theorem once_any (T M : List (Int × Int)) (lv kv mv : Value) (fs : List Fld) (S : Nat → Prop) (w : World) (hl : Flds w S lv fs) (hk : IMap w kv T) (hm : IMap w mv M) {R : Ending → World → Prop}
    (h0 : ¬ OnceOk T M fs → ∀ w', Grow w w' → R (.returned (.tuple #[.map none, .bool false])) w')
    (h1 : OnceOk T M fs → ∀ b n w', MapF Tryd.prog 3 w' b n (fldF (fs.filter (inT T M))) → Grow w w' → R (.returned (.tuple #[.map (some b), .bool true])) w') :
    Calls Tryd.prog 47 #[lv, kv, mv] w R := by
  have NO := Lib.hid h0
  have YS := Lib.hid h1
  obtain ⟨hv, hx⟩ := hl
  have HX := Lib.hid fun f hf => (hx f hf).1
  have FM : Hid (∀ f ∈ fs, ∃ a b c, f.dv = .slice a b c) := fun f hf => Rd.form (hx f hf).2.2.2
  have KI := Lib.hid fun W (h : Grow w W) => hk.gr h
  have MI := Lib.hid fun W (h : Grow w W) => hm.gr h
  clear h0 h1 hx hk hm
  have hv := hv.lt (by decide)
  obtain ⟨_, A, c, rfl, q1, q2, q3, q4⟩ := hv
  unfold maxLen at q2
  have hmm := @run_makeMap Tryd.prog
  have M1 : Hid (MapF Tryd.prog 3 (w.alloc (.map #[] 0)) w.heap.size 0 (fldF [])) := by
    have e : fldF [] = fun _ => none := by
      funext v
      unfold fldF
      split <;> rfl
    rw [e]
    exact MapF.made w Tryd.prog 3
  have G1 := Lib.hid ((Grow.refl w).al (.map #[] 0))
  go_enter Tryd.func47, Tryd.ntmps47
  go_wp2
  obtain ⟨mb, hmb⟩ : ∃ mb, w.heap.size = mb := ⟨_, rfl⟩
  generalize w.alloc (.map #[] 0) = wm at *
  rw [hmb] at M1
  rw [hmb]
  have LB : Hid (w.heap.size ≤ mb) := by show _ ≤ _; omega
  clear hmb
  go_loopw [20] (fun i wr => ∃ k : Nat, k ≤ fs.length ∧ i = .int .i64 k ∧ Hid (OnceOk T M (fs.take k)) ∧ Hid (MapF Tryd.prog 3 wr mb k (fldF ((fs.take k).filter (inT T M)))) ∧ Hid (Grow w wr)) (fun i _ => fs.length - (intOf i).toNat)
  case atStart => exact ⟨0, Nat.zero_le _, rfl, ⟨by simp, by simp, by simp⟩, M1.out, G1.out⟩
  case round =>
    clear M1 G1
    obtain ⟨k, hk, rfl, ho, hm, hg⟩ := hrel
    by_cases hlt : k < fs.length
    · obtain ⟨b1, o1, rfl, hb1, hc1⟩ := q4 (by omega)
      have e1 := flat_cells Fld.cells_len hg.out hb1 hc1 hlt
      have TK : fs.take (k + 1) = fs.take k ++ [fs[k]] := List.take_succ_eq_append_getElem hlt
      have SU := Lib.hid (once_snoc (f := fs[k]) ho.out)
      have BAD : Hid (¬ OnceOk T M (fs.take k ++ [fs[k]]) → ∀ w', Grow w w' → R (.returned (.tuple #[.map none, .bool false])) w') := fun h => NO.out fun h2 => h (by rw [← TK]; exact h2.take _)
      have NX := Lib.hid (HX.out fs[k] (List.getElem_mem hlt))
      have fm := FM.out fs[k] (List.getElem_mem hlt)
      have FA : Hid (∀ g ∈ (fs.take k).filter (inT T M), ∃ a b c, g.dv = .slice a b c) := fun g hg => FM.out g (List.mem_of_mem_take (List.mem_filter.1 hg).1)
      have TF : (fs.take (k + 1)).filter (inT T M) = (fs.take k).filter (inT T M) ++ if inT T M fs[k] then [fs[k]] else [] := by
        rw [TK, List.filter_append, List.filter_cons, List.filter_nil]
      rw [← TK] at SU BAD
      clear hc1 q4 q3 NO YS TK
      generalize fs[k] = x at *
      generalize (fs.take k).filter (inT T M) = acc at *
      obtain ⟨xn, xk, xi, xd, xv⟩ := x
      obtain ⟨X1, X2, X3, hx1⟩ := fm
      dsimp only at hx1
      subst hx1
      have d0 := e1 0 _ rfl
      have d1 := e1 1 _ rfl
      have d2 := e1 2 _ rfl
      have d3 := e1 3 _ rfl
      simp only [Nat.add_zero] at d0
      clear e1
      have IT : inT T M ⟨xn, xk, xi, xd, .slice X1 X2 X3⟩ = ((tabL M xn).isNone && (tabL T xn).isSome) := rfl
      rw [IT] at TF
      clear IT
      have TF := Lib.hid TF
      dsimp only at SU TF NX
      go_upto_region 5 with fail
      have BA := Lib.hid (BoxH.laid #[.int .i64 xn, .int .i64 xk, .int .u64 xi, .slice X1 X2 X3] 51 (Grow.refl wr))
      have G2 := Lib.hid (hg.out.al (.cells #[.int .i64 xn, .int .i64 xk, .int .u64 xi, .slice X1 X2 X3] 51))
      have M2 := Lib.hid (hm.out.gr ((Grow.refl wr).al (.cells #[.int .i64 xn, .int .i64 xk, .int .u64 xi, .slice X1 X2 X3] 51)))
      clear d0 d1 d2 d3 hg hm
      generalize wr.alloc (.cells #[.int .i64 xn, .int .i64 xk, .int .u64 xi, .slice X1 X2 X3] 51) = wa at *
      generalize wr.heap.size = p10 at *
      have z0 := BA.out.cell 0
      have z1 := BA.out.cell 1
      cases hM : tabL M xn with
      | some kk =>
        by_cases hkk : xk = kk
        · have t : (xk != kk) = false := by simp [hkk]
          have OK1 : Hid (OnceOk T M (fs.take (k + 1))) := SU.out.2 ⟨fun k' e => (by rw [hM] at e; injection e with e; exact hkk.trans e), fun e => (by rw [hM] at e; cases e)⟩
          have ME : Hid (MapF Tryd.prog 3 wa mb (k + 1) (fldF ((fs.take (k + 1)).filter (inT T M)))) := by
            show MapF _ _ _ _ _ _
            rw [TF.out, hM]
            simpa using M2.out.mono (Nat.le_succ k)
          clear SU TF BAD hkk
          go_wp2_with (at_lookup; refine wpList_ilook _ rfl _ _ rfl (MI.out _ G2.out) rfl rfl NX.out (v := kk) (ok := true) (by rw [hM]; rfl) (by rw [hM]; rfl) ?_)
          go_roundw
          case rel => exact ⟨k + 1, by omega, by go_num, OK1.out, ME.out, G2.out⟩
          case measure => simp [intOf]; omega
        · have t : (xk != kk) = true := by simpa using hkk
          have FIN := Lib.hid (BAD.out fun h => hkk ((SU.out.1 h).1 kk hM))
          clear SU TF BAD hkk
          go_wp2_with (at_lookup; refine wpList_ilook _ rfl _ _ rfl (MI.out _ G2.out) rfl rfl NX.out (v := kk) (ok := true) (by rw [hM]; rfl) (by rw [hM]; rfl) ?_)
          exact FIN.out _ G2.out
      | none =>
        cases hT : tabL T xn with
        | none =>
          have OK1 : Hid (OnceOk T M (fs.take (k + 1))) := SU.out.2 ⟨fun k' e => (by rw [hM] at e; cases e), fun _ k' e => (by rw [hT] at e; cases e)⟩
          have ME : Hid (MapF Tryd.prog 3 wa mb (k + 1) (fldF ((fs.take (k + 1)).filter (inT T M)))) := by
            show MapF _ _ _ _ _ _
            rw [TF.out, hM, hT]
            simpa using M2.out.mono (Nat.le_succ k)
          clear SU TF BAD
          go_wp2_with (first | (at_lookup; refine wpList_ilook _ rfl _ _ rfl (MI.out _ G2.out) rfl rfl NX.out (v := 0) (ok := false) (by rw [hM]; rfl) (by rw [hM]; rfl) ?_) | (at_lookup; refine wpList_ilook _ rfl _ _ rfl (KI.out _ G2.out) rfl rfl NX.out (v := 0) (ok := false) (by rw [hT]; rfl) (by rw [hT]; rfl) ?_))
          go_roundw
          case rel => exact ⟨k + 1, by omega, by go_num, OK1.out, ME.out, G2.out⟩
          case measure => simp [intOf]; omega
        | some kk =>
          have SU2 : Hid (OnceOk T M (fs.take (k + 1)) ↔ xk = kk ∧ ∀ g ∈ acc, g.num ≠ xn) := by
            refine SU.out.trans ⟨fun h => h.2 hM kk hT, fun h => ⟨fun k' e => (by rw [hM] at e; cases e), fun _ k' e => ?_⟩⟩
            rw [hT] at e
            injection e with e
            rw [← e]
            exact h
          have TF2 : Hid ((fs.take (k + 1)).filter (inT T M) = acc ++ [⟨xn, xk, xi, xd, .slice X1 X2 X3⟩]) := by
            show _ = _
            rw [TF.out, hM, hT]
            rfl
          clear SU TF
          go_upto_region 11 with (first | (at_lookup; refine wpList_ilook _ rfl _ _ rfl (MI.out _ G2.out) rfl rfl NX.out (v := 0) (ok := false) (by rw [hM]; rfl) (by rw [hM]; rfl) ?_) | (at_lookup; refine wpList_ilook _ rfl _ _ rfl (KI.out _ G2.out) rfl rfl NX.out (v := kk) (ok := true) (by rw [hT]; rfl) (by rw [hT]; rfl) ?_))
          cases hF : acc.find? (fun f => decide (f.num = xn)) with
          | some g =>
            have hgm := List.mem_of_find?_eq_some hF
            have hgn : g.num = xn := by simpa using List.find?_some hF
            obtain ⟨Y1, Y2, Y3, hy⟩ := FA.out g hgm
            have FIN := Lib.hid (BAD.out fun h => (SU2.out.1 h).2 g hgm hgn)
            have EF : Hid (fldF acc (.int .i64 xn) = some (.agg #[.int .i64 g.num, .int .i64 g.kind, .int .u64 g.int, .slice Y1 Y2 Y3])) := by
              show _ = _
              unfold fldF
              dsimp only
              rw [hF]
              unfold fldC Fld.cells
              simp [hy]
            clear SU2 TF2 BAD hgm hgn hF
            have BA := Lib.hid (BA.out.tr ((Grow.refl wa).al (.cells #[.int .i64 g.num, .int .i64 g.kind, .int .u64 g.int, .slice Y1 Y2 Y3] 51)))
            have G2 := Lib.hid (G2.out.al (.cells #[.int .i64 g.num, .int .i64 g.kind, .int .u64 g.int, .slice Y1 Y2 Y3] 51))
            go_wp2_with (at_lookup; refine wpList_lookok _ rfl _ _ _ rfl M2.out rfl keyI Tryd.underlying100 (zeroFld _) (key := .int .i64 xn) rfl (intKey NX.out) (v := .agg #[.int .i64 g.num, .int .i64 g.kind, .int .u64 g.int, .slice Y1 Y2 Y3]) (ok := true) (by rw [EF.out]; rfl) (by rw [EF.out]; rfl) ?_)
            exact FIN.out _ G2.out
          | none =>
            have FN := find_none hF
            have EF : Hid (fldF acc (.int .i64 xn) = none) := by
              show _ = _
              unfold fldF
              dsimp only
              rw [hF]
              rfl
            have B3 := Lib.hid (BA.out.tr ((Grow.refl wa).al (.cells #[.int .i64 0, .int .i64 0, .int .u64 0, .slice none 0 0] 51)))
            have G3 := Lib.hid (G2.out.al (.cells #[.int .i64 0, .int .i64 0, .int .u64 0, .slice none 0 0] 51))
            have M3 := Lib.hid (M2.out.gr ((Grow.refl wa).al (.cells #[.int .i64 0, .int .i64 0, .int .u64 0, .slice none 0 0] 51)))
            go_upto_region 12 with (at_lookup; refine wpList_lookok _ rfl _ _ _ rfl M2.out rfl keyI Tryd.underlying100 (zeroFld _) (key := .int .i64 xn) rfl (intKey NX.out) (v := .agg #[.int .i64 0, .int .i64 0, .int .u64 0, .slice none 0 0]) (ok := false) (by rw [EF.out]; rfl) (by rw [EF.out]; rfl) ?_)
            generalize wa.alloc (.cells #[.int .i64 0, .int .i64 0, .int .u64 0, .slice none 0 0] 51) = wb at *
            clear BA M2 G2 z0 z1 EF hF
            have z0 := B3.out.cell 0
            have z1 := B3.out.cell 1
            by_cases hkk : xk = kk
            · have t : (xk != kk) = false := by simp [hkk]
              have OK1 : Hid (OnceOk T M (fs.take (k + 1))) := SU2.out.2 ⟨hkk, FN⟩
              have PU := Lib.hid (fldF_snoc (f := ⟨xn, xk, xi, xd, .slice X1 X2 X3⟩) FN)
              clear SU2 BAD hkk
              have kb : k < maxLen := by unfold maxLen; omega
              go_wp2_with (first | (refine wpList_load_row rfl 51 _ rfl p10 rfl 51 _ (0, 0) _ B3.out.2.2 Tryd.underlying51 rfl (by kernel_rfl) ?_) | (at_mapUpdate; refine wpList_upd _ rfl _ _ _ _ rfl M3.out rfl keyI Tryd.underlying100 kb (key := .int .i64 xn) (val := .agg #[.int .i64 xn, .int .i64 xk, .int .u64 xi, .slice X1 X2 X3]) rfl rfl (intKey NX.out) PU.out.1 PU.out.2 ?_; intro w5 hm5 hg5; have M5 := Lib.hid hm5; have G5 := Lib.hid (grow_app G3.out hg5 fun j e => by injection e with e; have := LB.out; omega); clear hm5 hg5 z0 z1))
              go_roundw
              case rel => exact ⟨k + 1, by omega, by go_num, OK1.out, by rw [TF2.out]; exact M5.out, G5.out⟩
              case measure => simp [intOf]; omega
            · have t : (xk != kk) = true := by simpa using hkk
              have FIN := Lib.hid (BAD.out fun h => hkk (SU2.out.1 h).1)
              clear SU2 TF2 BAD hkk
              go_wp2
              exact FIN.out _ G3.out
    · obtain rfl : k = fs.length := by omega
      rw [List.take_length] at ho hm
      have FIN := Lib.hid (YS.out ho.out mb _ _ hm.out hg.out)
      clear YS NO hm hg ho
      go_wp2
      exact FIN.out
end Go.Proofs.YtjalimkajcjapaaDoor
