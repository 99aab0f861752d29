/-
  Dictionaries: tile.place, add, newDict, Dict.
-/
import Derived.Test.YtjalimkajcjapaaDoorChecked
import Derived.Test.YtjalimkajcjapaaDoorMapF
import Derived.Test.YtjalimkajcjapaaDoorRfE
import Derived.DeepKeys4
import Derived.Deep.RegionHeld3
namespace Go.Proofs.YtjalimkajcjapaaDoor
open Go.RowKit B
open Go.Maps (Keyed)

theorem keyS : Keyed Tryd.prog 9 := Maps.string_keyed Tryd.underlying9
theorem keyI : Keyed Tryd.prog 3 := Maps.int_keyed Tryd.underlying3
theorem laidOutT : laidOutB Tryd.prog = true := by kernel_rfl
theorem rowV : (44 : TypeId) < Tryd.prog.types.size := of_decide_eq_true (by kernel_rfl)
theorem keyV : Keyed Tryd.prog 44 := Keyed.of_law (deep_law_laid laidOutT (m := 2) (by omega) rowV (by kernel_rfl) (by kernel_rfl))
theorem cellsI : Tryd.prog.cellsOf 3 = 1 := by kernel_rfl
theorem cellsS : Tryd.prog.cellsOf 9 = 1 := by kernel_rfl
theorem cellsU : Tryd.prog.cellsOf 37 = 1 := by kernel_rfl
theorem cellsV : Tryd.prog.cellsOf 44 = 3 := by kernel_rfl
theorem keyTypeV : Tryd.prog.keyType 44 = true := by kernel_rfl
theorem strKey {s : ByteArray} (hs : s.size ≤ maxLen) : ∃ kl, keyOf Tryd.prog 9 (.string s) = some kl := str_key Tryd.underlying9 hs
theorem keyLitsV (k b : Int) (t : ByteArray) (hk : I64 k) (hb : U64 b) (ht : t.size ≤ maxLen) : ∃ ls, Tryd.prog.keyLits (Tryd.prog.types.size + 1) 44 [.int .i64 k, .string t, .int .u64 b] = some ls := by
  obtain ⟨m, hm⟩ : ∃ m, Tryd.prog.types.size = m + 1 := Nat.exists_eq_succ_of_ne_zero fun e => by have h := rowV; rw [e] at h; exact absurd h (Nat.not_lt_zero _)
  rw [hm]
  unfold maxLen at ht
  have w1 : (Lit.int .i64 k).wf = true := by simp only [Lit.wf, Bool.and_eq_true, decide_eq_true_eq]; exact ⟨hk.1, hk.2⟩
  have w2 : (Lit.int .u64 b).wf = true := by simp only [Lit.wf, Bool.and_eq_true, decide_eq_true_eq]; exact ⟨hb.1, hb.2⟩
  unfold Program.keyLits
  rw [Tryd.underlying44]
  simp [Program.keyLits, Tryd.underlying3, Tryd.underlying9, Tryd.underlying37, cellsV, cellsI, cellsS, cellsU, w1, w2, ht, maxLen]
theorem valKey {x : Val} (hk : I64 x.k) (hb : U64 x.b) (ht : x.t.size ≤ maxLen) : ∃ kl, keyOf Tryd.prog 44 x.v = some kl := by
  obtain ⟨ls, h⟩ := keyLitsV x.k x.b x.t hk hb ht
  have hf : x.v.formed Tryd.prog 44 = true := by
    unfold Val.v
    simp [Value.formed, Tryd.underlying44, cellsV]
  refine ⟨.string (keyBytes ls), ?_⟩
  unfold keyOf
  rw [Tryd.underlying44]
  dsimp only
  rw [keyTypeV, hf]
  simp only [Bool.and_self, if_true]
  show (Tryd.prog.keyLits (Tryd.prog.types.size + 1) 44 [.int .i64 x.k, .string x.t, .int .u64 x.b]).map _ = _
  rw [h]
  rfl
def strs (l : List ByteArray) : List Value := l.map Value.string
def Val.cells (x : Val) : List Value := [.int .i64 x.k, .string x.t, .int .u64 x.b]
theorem Val.cells_len (x : Val) : x.cells.length = 3 := rfl
def Vals (l : List Val) : List Value := l.flatMap Val.cells
theorem str_inj : ∀ x y : ByteArray, Value.string x = Value.string y → x = y := fun x y h => by injection h
theorem val_inj : ∀ x y : Val, x.v = y.v → x = y := fun x y h => by
  obtain ⟨a, b, c⟩ := x
  obtain ⟨d, e, f⟩ := y
  simp only [Val.v, Value.agg.injEq, Array.mk.injEq, List.cons.injEq, Value.int.injEq, Value.string.injEq, true_and, and_true] at h
  obtain ⟨h1, h2, h3⟩ := h
  subst h1 h2 h3
  rfl
theorem el_str : Elem Tryd.prog 54 9 (.string ⟨#[]⟩) 1 16 := ⟨by kernel_rfl, by kernel_rfl, rfl, by decide, by decide⟩
theorem el_val : Elem Tryd.prog 55 44 (.agg #[.int .i64 0, .string ⟨#[]⟩, .int .u64 0]) 3 32 := ⟨by kernel_rfl, by kernel_rfl, rfl, by decide, by decide⟩
theorem zeroI (w : World) : (zeroValue 3).run Tryd.prog w = .ok (.int .i64 0) w := by kernel_rfl
/-- append of one new element, which the translation has just laid in a block of its own -/
theorem wpList_put {P : Program} {w : World} {t e : TypeId} {z : Value} {size bytes : Nat} {ops : Array Oper} {rest : List Oper} {o : Oper} {a : Act} {Q : Exit → Act → World → Prop} (hgd : o.guard = none) (s x : Operand)
    (ho : o.op = .call { callee := .builtin .append, args := #[s, x], argTypes := #[t, t] })
    (E : Elem P t e z size bytes) {base : Nat} {v : Value} {n : Nat} {xs : List Value} (hown : w.ownsRow base e size v n xs) (hs : a.eval s = v)
    (m g : Nat) (hgz : w.heap.size = g) (cs : Array Value) (hx : a.eval x = .slice (some ⟨g, 0, none⟩) m m) (hm : m ≤ 16) (hcs : cs.size = m * size) (h1 : ∀ u ∈ cs.toList, u.oneCell' = true)
    (hn : (n + m) * bytes ≤ 140737488355328) (hbase : base ≤ w.heap.size)
    (h : ∀ v' w', w'.ownsRow base e size v' (n + m) (xs ++ cs.toList) → w.grownBy w' v.ownBlock → (v'.ownBlock = v.ownBlock ∨ v'.ownBlock = some (w.heap.size + 1)) → wpList P ops Q rest (a.put o.dst v') w') :
    wpList P ops Q (o :: rest) a (w.alloc (.cells cs e)) := by
  subst hgz
  refine wpList_app hgd s x ho E (hown.alloc _) hs (Rd.lit w cs e m (by simp only [maxLen]; omega) hcs) hx h1 hn (by rw [World.size_alloc]; omega) fun v' w' k1 k2 k3 => ?_
  exact h v' w' k1 (grow_of_alloc k2) (by rw [World.size_alloc] at k3; exact k3)

set_option maxRecDepth 100000 in
set_option maxHeartbeats 1000000 in
theorem place_s (K : List ByteArray) (kv : Value) (mk : Nat) (x : ByteArray) (base : Nat) (w : World) (hO : w.ownsRow base 9 1 kv K.length (strs K)) (hM : MapF Tryd.prog 9 w mk K.length (idxF Value.string K)) (hx : ∃ kl, keyOf Tryd.prog 9 (Value.string x) = some kl) (hK : K.length ≤ 1000000) (hb : base ≤ w.heap.size)
    {R : Ending → World → Prop} (hR : ∀ kv' w', w'.ownsRow base 9 1 kv' (putL K x).length (strs (putL K x)) → MapF Tryd.prog 9 w' mk (putL K x).length (idxF Value.string (putL K x)) → Tn (fun j => j = mk ∨ kv.ownBlock = some j) w w' → (kv'.ownBlock = kv.ownBlock ∨ ∃ k, kv'.ownBlock = some k ∧ w.heap.size ≤ k) →
      R (.returned (.tuple #[kv', .int .i64 ((ix (putL K x) x : Nat) : Int)])) w') :
    Calls Tryd.prog 57 #[kv, .map (some mk), .string x] w R := by
  have HR := Lib.hid hR
  have hmk := Lib.hid hM.lt
  have HM := Lib.hid (hM.gr (Grow.refl w))
  have HX : Hid (∃ kl, keyOf Tryd.prog 9 (.string x) = some kl) := hx
  have HO := Lib.hid (own_grow hO (Grow.refl w))
  have HB : Hid (base ≤ (w).heap.size) := Nat.le_trans hb (RowKit.Below.size (Grow.refl w))
  obtain ⟨A, c, rfl⟩ := own_slice hO
  clear hR hM hO hx
  by_cases hm : x ∈ K
  · have EF : Hid (idxF Value.string K (.string x) = some (.int .i64 ((ix K x : Nat) : Int))) := by show idxF Value.string K (Value.string x) = _; rw [idxF_at str_inj, if_pos hm]
    have ep : putL K x = K := by unfold putL; rw [if_pos hm]
    rw [ep] at HR
    clear hm ep
    go_enter Tryd.func57, Tryd.ntmps57
    go_wp2_with (at_lookup; refine wpList_lookok _ rfl _ _ _ rfl HM.out rfl keyS Tryd.underlying56 (zeroI _) (key := .string x) rfl HX.out (v := .int .i64 ((ix K x : Nat) : Int)) (ok := true) (by rw [EF.out]; rfl) (by rw [EF.out]; rfl) ?_)
    exact HR.out _ _ HO.out HM.out (Tn.of (Grow.refl w)) (.inl rfl)
  · have EF : Hid (idxF Value.string K (.string x) = none) := by show idxF Value.string K (Value.string x) = _; rw [idxF_at str_inj, if_neg hm]
    have PU : Hid (idxF Value.string (K ++ [x]) (.string x) = some (.int .i64 (K.length : Int)) ∧ ∀ v, v ≠ .string x → idxF Value.string (K ++ [x]) v = idxF Value.string K v) := idxF_put str_inj K x hm
    have ep : putL K x = K ++ [x] := by unfold putL; rw [if_neg hm]
    have ei : ix (K ++ [x]) x = K.length := ix_new hm
    rw [ep, ei] at HR
    clear hm ep ei
    go_enter Tryd.func57, Tryd.ntmps57
    go_wp2_with (first
      | (at_lookup; refine wpList_lookok _ rfl _ _ _ rfl HM.out rfl keyS Tryd.underlying56 (zeroI _) (key := .string x) rfl HX.out (v := .int .i64 0) (ok := false) (by rw [EF.out]; rfl) (by rw [EF.out]; rfl) ?_)
      | (at_mapUpdate; refine wpList_upd _ rfl _ _ _ _ rfl HM.out rfl keyS Tryd.underlying56 (by unfold maxLen; omega) (key := .string x) (val := .int .i64 (K.length : Int)) rfl rfl HX.out PU.out.1 PU.out.2 ?_; intro w1 hm1 hg1; have HO1 := Lib.hid (HO.out.kept hg1 (.inr (HM.out.ne_own HO.out))); have HM1 := Lib.hid hm1; have G1 := Lib.hid hg1; clear hm1 hg1; skip)
      | (at_builtin; refine wpList_put rfl _ _ rfl el_str HO1.out rfl 1 _ rfl _ rfl (by decide) rfl (by simp [Value.oneCell']) (by omega) (Nat.le_trans HB.out G1.out.size) ?_; intro v2 w2 hown2 hgr2 hb2))
    refine HR.out _ _ (own_eq hown2 (by simp) (by simp [strs, strs])) ?_ ?_ ?_
    · have h1 := (HM1.out.block (hgr2.block _ HM1.out.lt fun e => HM1.out.ne_own HO1.out e.symm))
      rw [List.length_append, List.length_singleton]
      exact h1
    · exact ((Tn.of (D := fun k => k = mk ∨ (Value.slice A K.length c).ownBlock = some k) (Grow.refl w)).tr (Tn.by_ (D := fun k => k = mk ∨ (Value.slice A K.length c).ownBlock = some k) G1.out fun k e => .inl (by injection e with e; exact e.symm)) fun j _ h => h).tr (Tn.by_ (D := fun k => k = mk ∨ (Value.slice A K.length c).ownBlock = some k) hgr2 fun k e => .inr e) fun j _ h => h
    · rcases hb2 with h | h
      · exact .inl h
      · exact .inr ⟨_, h, by have h1 := G1.out.size; have h2 := RowKit.Below.size (Grow.refl w); omega⟩
set_option maxRecDepth 100000 in
set_option maxHeartbeats 1000000 in
theorem place_v (K : List Val) (kv : Value) (mk : Nat) (x : Val) (base : Nat) (w : World) (hO : w.ownsRow base 44 3 kv K.length (Vals K)) (hM : MapF Tryd.prog 44 w mk K.length (idxF Val.v K)) (hx : ∃ kl, keyOf Tryd.prog 44 (Val.v x) = some kl) (hK : K.length ≤ 1000000) (hb : base ≤ w.heap.size)
    {R : Ending → World → Prop} (hR : ∀ kv' w', w'.ownsRow base 44 3 kv' (putL K x).length (Vals (putL K x)) → MapF Tryd.prog 44 w' mk (putL K x).length (idxF Val.v (putL K x)) → Tn (fun j => j = mk ∨ kv.ownBlock = some j) w w' → (kv'.ownBlock = kv.ownBlock ∨ ∃ k, kv'.ownBlock = some k ∧ w.heap.size ≤ k) →
      R (.returned (.tuple #[kv', .int .i64 ((ix (putL K x) x : Nat) : Int)])) w') :
    Calls Tryd.prog 58 #[kv, .map (some mk), .agg #[.int .i64 x.k, .string x.t, .int .u64 x.b]] w R := by
  have HR := Lib.hid hR
  have hmk := Lib.hid hM.lt
  have HM := Lib.hid (hM.gr ((Grow.refl w).al (.cells #[.int .i64 x.k, .string x.t, .int .u64 x.b] 44)))
  have HX : Hid (∃ kl, keyOf Tryd.prog 44 (.agg #[.int .i64 x.k, .string x.t, .int .u64 x.b]) = some kl) := hx
  have HO := Lib.hid (own_grow hO ((Grow.refl w).al (.cells #[.int .i64 x.k, .string x.t, .int .u64 x.b] 44)))
  have HB : Hid (base ≤ (w.alloc (.cells #[.int .i64 x.k, .string x.t, .int .u64 x.b] 44)).heap.size) := Nat.le_trans hb (RowKit.Below.size ((Grow.refl w).al (.cells #[.int .i64 x.k, .string x.t, .int .u64 x.b] 44)))
  obtain ⟨A, c, rfl⟩ := own_slice hO
  clear hR hM hO hx
  by_cases hm : x ∈ K
  · have EF : Hid (idxF Val.v K (.agg #[.int .i64 x.k, .string x.t, .int .u64 x.b]) = some (.int .i64 ((ix K x : Nat) : Int))) := by show idxF Val.v K (Val.v x) = _; rw [idxF_at val_inj, if_pos hm]
    have ep : putL K x = K := by unfold putL; rw [if_pos hm]
    rw [ep] at HR
    clear hm ep
    go_enter Tryd.func58, Tryd.ntmps58
    go_wp2_with (at_lookup; refine wpList_lookok _ rfl _ _ _ rfl HM.out rfl keyV Tryd.underlying57 (zeroI _) (key := .agg #[.int .i64 x.k, .string x.t, .int .u64 x.b]) rfl HX.out (v := .int .i64 ((ix K x : Nat) : Int)) (ok := true) (by rw [EF.out]; rfl) (by rw [EF.out]; rfl) ?_)
    exact HR.out _ _ HO.out HM.out (Tn.of ((Grow.refl w).al (.cells #[.int .i64 x.k, .string x.t, .int .u64 x.b] 44))) (.inl rfl)
  · have EF : Hid (idxF Val.v K (.agg #[.int .i64 x.k, .string x.t, .int .u64 x.b]) = none) := by show idxF Val.v K (Val.v x) = _; rw [idxF_at val_inj, if_neg hm]
    have PU : Hid (idxF Val.v (K ++ [x]) (.agg #[.int .i64 x.k, .string x.t, .int .u64 x.b]) = some (.int .i64 (K.length : Int)) ∧ ∀ v, v ≠ .agg #[.int .i64 x.k, .string x.t, .int .u64 x.b] → idxF Val.v (K ++ [x]) v = idxF Val.v K v) := idxF_put val_inj K x hm
    have ep : putL K x = K ++ [x] := by unfold putL; rw [if_neg hm]
    have ei : ix (K ++ [x]) x = K.length := ix_new hm
    rw [ep, ei] at HR
    clear hm ep ei
    go_enter Tryd.func58, Tryd.ntmps58
    go_wp2_with (first
      | (at_lookup; refine wpList_lookok _ rfl _ _ _ rfl HM.out rfl keyV Tryd.underlying57 (zeroI _) (key := .agg #[.int .i64 x.k, .string x.t, .int .u64 x.b]) rfl HX.out (v := .int .i64 0) (ok := false) (by rw [EF.out]; rfl) (by rw [EF.out]; rfl) ?_)
      | (at_mapUpdate; refine wpList_upd _ rfl _ _ _ _ rfl HM.out rfl keyV Tryd.underlying57 (by unfold maxLen; omega) (key := .agg #[.int .i64 x.k, .string x.t, .int .u64 x.b]) (val := .int .i64 (K.length : Int)) rfl rfl HX.out PU.out.1 PU.out.2 ?_; intro w1 hm1 hg1; have HO1 := Lib.hid (HO.out.kept hg1 (.inr (HM.out.ne_own HO.out))); have HM1 := Lib.hid hm1; have G1 := Lib.hid hg1; clear hm1 hg1; have bx := (G1.out.block w.heap.size (by rw [World.size_alloc]; omega) (fun e => by injection e with e; have := hmk.out; omega)).trans (heap_alloc_new w _); have x0 := cell_of_row w1 w.heap.size 0 _ _ (0, 0) bx; have x1 := cell_of_row w1 w.heap.size 1 _ _ (0, 0) bx; have x2 := cell_of_row w1 w.heap.size 2 _ _ (0, 0) bx; clear bx)
      | (at_builtin; refine wpList_put rfl _ _ rfl el_val HO1.out rfl 1 _ rfl _ rfl (by decide) rfl (by simp [Value.oneCell']) (by omega) (Nat.le_trans HB.out G1.out.size) ?_; intro v2 w2 hown2 hgr2 hb2))
    refine HR.out _ _ (own_eq hown2 (by simp) (by simp [Vals, Val.cells])) ?_ ?_ ?_
    · have h1 := (HM1.out.block (hgr2.block _ HM1.out.lt fun e => HM1.out.ne_own HO1.out e.symm))
      rw [List.length_append, List.length_singleton]
      exact h1
    · exact ((Tn.of (D := fun k => k = mk ∨ (Value.slice A K.length c).ownBlock = some k) ((Grow.refl w).al (.cells #[.int .i64 x.k, .string x.t, .int .u64 x.b] 44))).tr (Tn.by_ (D := fun k => k = mk ∨ (Value.slice A K.length c).ownBlock = some k) G1.out fun k e => .inl (by injection e with e; exact e.symm)) fun j _ h => h).tr (Tn.by_ (D := fun k => k = mk ∨ (Value.slice A K.length c).ownBlock = some k) hgr2 fun k e => .inr e) fun j _ h => h
    · rcases hb2 with h | h
      · exact .inl h
      · exact .inr ⟨_, h, by have h1 := G1.out.size; have h2 := RowKit.Below.size ((Grow.refl w).al (.cells #[.int .i64 x.k, .string x.t, .int .u64 x.b] 44)); omega⟩
end Go.Proofs.YtjalimkajcjapaaDoor
