/-
  A map of the call's own, told by a function of its keys; turns of the world that leave all blocks but some.
-/
import Derived.Test.YtjalimkajcjapaaDoorChecked
import Derived.Test.YtjalimkajcjapaaDoorCore
import Derived.Test.YtjalimkajcjapaaDoorRowsA
import Derived.Maps.OwnSet
namespace Go.Proofs.YtjalimkajcjapaaDoor
open Go.RowKit B
open Go.Maps (Keyed has)
def RH (v : Value) : Option (DataW Value × List MemPlace) := some (.held v, [])
/-- block b is a map of at most n entries: at the key x it holds what f says -/
def MapF (P : Program) (k : TypeId) (w : World) (b n : Nat) (f : Value → Option Value) : Prop :=
  ∃ D, w.ownsMap P k RH b n D ∧ ∀ x kl, keyOf P k x = some kl → (∀ z, D.atKey kl (.held z) = .held ((f x).getD z)) ∧ has D kl = (f x).isSome
section
variable {P : Program} {k e t : TypeId} {w : World} {b n : Nat} {f : Value → Option Value}
theorem MapF.made (w : World) (P : Program) (k : TypeId) : MapF P k (w.alloc (.map #[] 0)) w.heap.size 0 (fun _ => none) :=
  ⟨_, World.ownsMap_made w P k RH, fun _ _ _ => ⟨fun _ => rfl, rfl⟩⟩
theorem MapF.lt (h : MapF P k w b n f) : b < w.heap.size := by obtain ⟨D, h, _⟩ := h; exact h.lt
theorem MapF.mono (h : MapF P k w b n f) {n' : Nat} (hn : n ≤ n') : MapF P k w b n' f := by obtain ⟨D, h, h2⟩ := h; exact ⟨D, h.mono hn, h2⟩
theorem MapF.block {w' : World} (h : MapF P k w b n f) (hb : w'.heap[b]? = w.heap[b]?) : MapF P k w' b n f := by
  obtain ⟨D, ⟨es, c, h1, h2, h3⟩, h4⟩ := h
  exact ⟨D, ⟨es, c, hb.trans h1, h2, h3⟩, h4⟩
theorem MapF.gr {w' : World} (h : MapF P k w b n f) (hg : Grow w w') : MapF P k w' b n f := h.block (hg.block b h.lt)
theorem MapF.look (h : MapF P k w b n f) (K : Keyed P k) (ht : P.underlying t = some (.map k e)) {z : Value} (hz : (zeroValue e).run P w = .ok z w) {x : Value} (hx : ∃ kl, keyOf P k x = some kl) (c : Bool) :
    (Instr.lookup t (.map (some b)) x c).run P w = .ok (if c then .tuple #[(f x).getD z, .bool (f x).isSome] else (f x).getD z) w := by
  obtain ⟨kl, hkl⟩ := hx
  obtain ⟨D, h1, h2⟩ := h
  obtain ⟨h3, h4⟩ := h2 x kl hkl
  cases c
  · obtain ⟨v, ps, hr, hv⟩ := h1.lookup K ht hz (zd := .held z) (zp := []) rfl hkl
    rw [h3 z] at hv
    unfold RH at hv
    injection hv with hv
    injection hv with hv _
    injection hv with hv
    rw [hr, hv]
    rfl
  · obtain ⟨v, ps, hr, hv⟩ := h1.look_ok K ht hz (zd := .held z) (zp := []) rfl hkl
    rw [h3 z] at hv
    unfold RH at hv
    injection hv with hv
    injection hv with hv _
    injection hv with hv
    rw [hr, hv, h4]
    rfl
theorem MapF.upd (h : MapF P k w b n f) (K : Keyed P k) (ht : P.underlying t = some (.map k e)) (hn : n < maxLen) {x v : Value} (hx : ∃ kl, keyOf P k x = some kl) {f' : Value → Option Value} (h1 : f' x = some v) (h2 : ∀ y, y ≠ x → f' y = f y) :
    ∃ w', (Instr.mapUpdate t (.map (some b)) x v).run P w = .ok () w' ∧ MapF P k w' b (n + 1) f' ∧ w.grownBy w' (some b) := by
  obtain ⟨kl, hkl⟩ := hx
  obtain ⟨D, h3, h4⟩ := h
  obtain ⟨w', hr, ho, hg⟩ := h3.update K ht hn (d := .held v) (ps := []) hkl rfl
  refine ⟨w', hr, ⟨_, ho, fun y kl' hy => ?_⟩, hg⟩
  by_cases hyx : y = x
  · subst hyx
    rw [hkl] at hy
    injection hy with hy
    subst hy
    rw [h1]
    exact ⟨fun z => Maps.atKey_put_same h3.isMap (K.key hkl) _ _, Maps.has_put_same h3.isMap (K.key hkl) _⟩
  · have hne : kl' ≠ kl := fun e => hyx (K.inj (e ▸ hy) hkl)
    rw [h2 y hyx]
    obtain ⟨h5, h6⟩ := h4 y kl' hy
    exact ⟨fun z => (Maps.atKey_put_other hne _ _).trans (h5 z), (Maps.has_put_other hne _).trans h6⟩
/-- a nil map is asked -/
theorem look_nilmap (K : Keyed P k) (ht : P.underlying t = some (.map k e)) {z : Value} (hz : (zeroValue e).run P w = .ok z w) {x : Value} (hx : ∃ kl, keyOf P k x = some kl) (c : Bool) :
    (Instr.lookup t (.map none) x c).run P w = .ok (if c then .tuple #[z, .bool false] else z) w := by
  obtain ⟨kl, hkl⟩ := hx
  exact Maps.look_nil c K ht hz hkl
end
theorem exec_look {P : Program} {o : Oper} {a : Act} {w : World} (t : TypeId) (m x : Operand) (c : Bool) (ho : o.op = .lookup t m x c) {k e : TypeId} {b n : Nat} {f : Value → Option Value} (h : MapF P k w b n f) (hm : a.eval m = .map (some b))
    (K : Keyed P k) (ht : P.underlying t = some (.map k e)) {z : Value} (hz : (zeroValue e).run P w = .ok z w) {key : Value} (hkey : a.eval x = key) (hx : ∃ kl, keyOf P k key = some kl) :
    (execOp a.eval o).run P w = .ok (.value (if c then .tuple #[(f key).getD z, .bool (f key).isSome] else (f key).getD z)) w := by
  have := h.look K ht hz hx c
  subst hkey
  unfold execOp
  simp only [ho, hm, Sem.run_bind, Sem.run_pure, Result.andThen_ok, this]
theorem wpList_look {P : Program} (w : World) {ops : Array Oper} {rest : List Oper} {o : Oper} {a : Act} {Q : Exit → Act → World → Prop} (hg : o.guard = none) (t : TypeId) (m x : Operand) (c : Bool) (ho : o.op = .lookup t m x c) {k e : TypeId} {b n : Nat} {f : Value → Option Value} (h : MapF P k w b n f) (hm : a.eval m = .map (some b))
    (K : Keyed P k) (ht : P.underlying t = some (.map k e)) {z : Value} (hz : (zeroValue e).run P w = .ok z w) {key : Value} (hkey : a.eval x = key) (hx : ∃ kl, keyOf P k key = some kl)
    (hK : wpList P ops Q rest (a.put o.dst (if c then .tuple #[(f key).getD z, .bool (f key).isSome] else (f key).getD z)) w) : wpList P ops Q (o :: rest) a w := by
  refine wpList_plain hg fun K' hK' => ?_
  have := exec_look t m x c ho h hm K ht hz hkey hx
  unfold Oper.wp
  rw [this]
  exact hK' _ _ hK
theorem wpList_lookok {P : Program} (w : World) {ops : Array Oper} {rest : List Oper} {o : Oper} {a : Act} {Q : Exit → Act → World → Prop} (hg : o.guard = none) (t : TypeId) (m x : Operand) (ho : o.op = .lookup t m x true) {k e : TypeId} {b n : Nat} {f : Value → Option Value} (h : MapF P k w b n f) (hm : a.eval m = .map (some b))
    (K : Keyed P k) (ht : P.underlying t = some (.map k e)) {z : Value} (hz : (zeroValue e).run P w = .ok z w) {key : Value} (hkey : a.eval x = key) (hx : ∃ kl, keyOf P k key = some kl) {v : Value} {ok : Bool} (hv : (f key).getD z = v) (hok : (f key).isSome = ok)
    (hK : wpList P ops Q rest (a.put o.dst (.tuple #[v, .bool ok])) w) : wpList P ops Q (o :: rest) a w := by
  refine wpList_look w hg t m x true ho h hm K ht hz hkey hx ?_
  rw [hv, hok]
  exact hK
theorem wpList_look1 {P : Program} (w : World) {ops : Array Oper} {rest : List Oper} {o : Oper} {a : Act} {Q : Exit → Act → World → Prop} (hg : o.guard = none) (t : TypeId) (m x : Operand) (ho : o.op = .lookup t m x false) {k e : TypeId} {b n : Nat} {f : Value → Option Value} (h : MapF P k w b n f) (hm : a.eval m = .map (some b))
    (K : Keyed P k) (ht : P.underlying t = some (.map k e)) {z : Value} (hz : (zeroValue e).run P w = .ok z w) {key : Value} (hkey : a.eval x = key) (hx : ∃ kl, keyOf P k key = some kl) {v : Value} (hv : (f key).getD z = v)
    (hK : wpList P ops Q rest (a.put o.dst v) w) : wpList P ops Q (o :: rest) a w := by
  refine wpList_look w hg t m x false ho h hm K ht hz hkey hx ?_
  subst hv
  exact hK
theorem wpList_upd {P : Program} (w : World) {ops : Array Oper} {rest : List Oper} {o : Oper} {a : Act} {Q : Exit → Act → World → Prop} (hg : o.guard = none) (t : TypeId) (m x v : Operand) (ho : o.op = .mapUpdate t m x v) {k e : TypeId} {b n : Nat} {f : Value → Option Value} (h : MapF P k w b n f) (hm : a.eval m = .map (some b))
    (K : Keyed P k) (ht : P.underlying t = some (.map k e)) (hn : n < maxLen) {key val : Value} (hkey : a.eval x = key) (hval : a.eval v = val) (hx : ∃ kl, keyOf P k key = some kl) {f' : Value → Option Value} (h1 : f' key = some val) (h2 : ∀ y, y ≠ key → f' y = f y)
    (hK : ∀ w', MapF P k w' b (n + 1) f' → w.grownBy w' (some b) → wpList P ops Q rest (a.put o.dst undef) w') : wpList P ops Q (o :: rest) a w := by
  refine wpList_plain hg fun K' hK' => ?_
  obtain ⟨w', hr, r1, r2⟩ := h.upd K ht hn hx h1 h2
  subst hkey
  subst hval
  unfold Oper.wp
  simp [execOp, ho, hm, hr, Result.andThen]
  exact hK' _ _ (hK w' r1 r2)
theorem str_key {P : Program} {k : TypeId} (hk : P.underlying k = some .string) {s : ByteArray} (hs : s.size ≤ maxLen) : ∃ kl, keyOf P k (.string s) = some kl := ⟨.string s.data.toList, by simp [keyOf, hk, mapKey, hs]⟩
theorem int_key {P : Program} {k : TypeId} (hk : P.underlying k = some (.int .i64)) {a : Int} (hw : (Lit.int .i64 a).wf = true) : ∃ kl, keyOf P k (.int .i64 a) = some kl := ⟨_, Maps.keyOf_int_mk hk hw⟩

/-- w' is w but for the blocks of D, and for new ones -/
structure Tn (D : Nat → Prop) (w w' : World) : Prop where
  os : w'.os = w.os
  tape : w'.tape = w.tape
  output : w'.output = w.output
  size : w.heap.size ≤ w'.heap.size
  block : ∀ k, k < w.heap.size → ¬ D k → w'.heap[k]? = w.heap[k]?
section
variable {D E : Nat → Prop} {w w' w'' : World}
theorem Tn.of (h : Grow w w') : Tn D w w' := ⟨h.os, h.tape, h.output, h.size, fun k hk _ => h.block k hk⟩
theorem Tn.by_ {row : Option Nat} (h : w.grownBy w' row) (hr : ∀ k, row = some k → D k) : Tn D w w' := ⟨h.os, h.tape, h.output, h.size, fun k hk hd => h.block k hk fun e => hd (hr k e.symm)⟩
theorem Tn.tr (h : Tn D w w') (k : Tn E w' w'') (hE : ∀ j, j < w.heap.size → E j → D j) : Tn D w w'' :=
  ⟨k.os.trans h.os, k.tape.trans h.tape, k.output.trans h.output, Nat.le_trans h.size k.size, fun j hj hd => (k.block j (Nat.lt_of_lt_of_le hj h.size) fun e => hd (hE j hj e)).trans (h.block j hj hd)⟩
theorem Tn.gr {w0 : World} (h0 : Grow w0 w) (h : Tn D w w') (hD : ∀ j, D j → w0.heap.size ≤ j) : Grow w0 w' :=
  ⟨h.os.trans h0.os, h.tape.trans h0.tape, h.output.trans h0.output, Nat.le_trans h0.size h.size, fun j hj => (h.block j (Nat.lt_of_lt_of_le hj h0.size) fun e => by have := hD j e; omega).trans (h0.block j hj)⟩
theorem Tn.into (h : Tn D w w') (hE : ∀ j, D j → E j) : Tn E w w' := ⟨h.os, h.tape, h.output, h.size, fun k hk hd => h.block k hk fun e => hd (hE k e)⟩
theorem Tn.rd {S : Nat → Prop} {size n : Nat} {v : Value} {xs : List Value} (h : Rd w S size v n xs) (h0 : 0 < size) (ht : Tn D w w') (hS : ∀ b, S b → ¬ D b) : Rd w' S size v n xs := by
  exact ((h.and_lt h0).keep fun b hb => ht.block b hb.2 (hS b hb.1)).into fun b hb => hb.1
theorem Tn.own {base e size n : Nat} {v : Value} {xs : List Value} (h : w.ownsRow base e size v n xs) (ht : Tn D w w') (hne : ∀ k, v.ownBlock = some k → ¬ D k) : w'.ownsRow base e size v n xs := by
  refine ⟨h.1, ?_⟩
  rcases h.2 with hn | ⟨g, cap, cur, rfl, hb, hgg, rest⟩
  · exact .inl hn
  · refine .inr ⟨g, cap, cur, rfl, hb, ?_, rest⟩
    rw [ht.block g (Array.getElem?_eq_some_iff.1 hgg).1 (hne g rfl)]
    exact hgg
theorem Tn.blk {o : Obj} {b : Nat} (h : w.heap[b]? = some o) (ht : Tn D w w') (hb : ¬ D b) : w'.heap[b]? = some o := (ht.block b (Array.getElem?_eq_some_iff.1 h).1 hb).trans h
theorem Tn.map {P : Program} {k : TypeId} {b n : Nat} {f : Value → Option Value} (h : MapF P k w b n f) (ht : Tn D w w') (hb : ¬ D b) : MapF P k w' b n f := h.block (ht.block b h.lt hb)
/-- a map and a row do not share a block -/
theorem MapF.ne_own {P : Program} {k : TypeId} {b n : Nat} {f : Value → Option Value} (h : MapF P k w b n f) {base e size m : Nat} {v : Value} {xs : List Value} (ho : w.ownsRow base e size v m xs) : v.ownBlock ≠ some b := by
  obtain ⟨_, ⟨es, c, h1, _⟩, _⟩ := h
  rcases ho.2 with ⟨rfl, _⟩ | ⟨g, cap, cur, rfl, _, hg, _⟩
  · simp [Value.ownBlock]
  · simp only [Value.ownBlock]
    intro e
    injection e with e
    subst e
    rw [h1] at hg
    simp at hg
theorem MapF.ne_box {P : Program} {k : TypeId} {b c n : Nat} {f : Value → Option Value} (h : MapF P k w b n f) {cs : Array Value} {t : TypeId} {fr : Nat × Nat} (ho : w.heap[c]? = some (.cells cs t fr)) : c ≠ b := by
  obtain ⟨_, ⟨es, cc, h1, _⟩, _⟩ := h
  rintro rfl
  rw [h1] at ho
  simp at ho
theorem own_ne_own {b1 b2 e1 e2 s1 s2 n m : Nat} {v u : Value} {xs ys : List Value} (h : w.ownsRow b1 e1 s1 v n xs) (k : w.ownsRow b2 e2 s2 u m ys) (hne : e1 ≠ e2) : ∀ j, v.ownBlock = some j → u.ownBlock ≠ some j := by
  rcases h.2 with ⟨rfl, _⟩ | ⟨g, cap, cur, rfl, _, hg, _⟩
  · intro j hj; simp [Value.ownBlock] at hj
  · rcases k.2 with ⟨rfl, _⟩ | ⟨g', cap', cur', rfl, _, hg', _⟩
    · intro j _; simp [Value.ownBlock]
    · intro j hj hj'
      simp only [Value.ownBlock, Option.some.injEq] at hj hj'
      subst hj
      subst hj'
      rw [hg] at hg'
      simp only [Option.some.injEq, Obj.cells.injEq] at hg'
      exact hne hg'.2.1
theorem own_ne_box {b1 e1 e2 s1 n c : Nat} {v : Value} {xs : List Value} (h : w.ownsRow b1 e1 s1 v n xs) {cs : Array Value} {fr : Nat × Nat} (k : w.heap[c]? = some (.cells cs e2 fr)) (hne : e1 ≠ e2) : v.ownBlock ≠ some c := by
  rcases h.2 with ⟨rfl, _⟩ | ⟨g, cap, cur, rfl, _, hg, _⟩
  · simp [Value.ownBlock]
  · simp only [Value.ownBlock]
    intro hj
    injection hj with hj
    subst hj
    rw [hg] at k
    simp only [Option.some.injEq, Obj.cells.injEq] at k
    exact hne k.2.1
end
/-- the place of one in a list -/
def ix {α : Type} [DecidableEq α] (L : List α) (x : α) : Nat := L.idxOf x
theorem ix_lt {α : Type} [DecidableEq α] {L : List α} {x : α} (h : x ∈ L) : ix L x < L.length := List.idxOf_lt_length_of_mem h
theorem ix_le {α : Type} [DecidableEq α] (L : List α) (x : α) : ix L x ≤ L.length := List.idxOf_le_length
theorem ix_get {α : Type} [DecidableEq α] {L : List α} {x : α} (h : ix L x < L.length) : L[ix L x] = x := List.getElem_idxOf h
theorem ix_app {α : Type} [DecidableEq α] {L M : List α} {x : α} (h : x ∈ L) : ix (L ++ M) x = ix L x := by unfold ix; rw [List.idxOf_append, if_pos h]
theorem ix_new {α : Type} [DecidableEq α] {L : List α} {x : α} (h : x ∉ L) : ix (L ++ [x]) x = L.length := by unfold ix; rw [List.idxOf_append, if_neg h]; simp
open Classical in
/-- what a table of places holds: c x lies at the place of x in L -/
noncomputable def idxF {α : Type} [DecidableEq α] (c : α → Value) (L : List α) : Value → Option Value := fun v => if h : ∃ x ∈ L, c x = v then some (.int .i64 ((ix L h.choose : Nat) : Int)) else none
theorem idxF_at {α : Type} [DecidableEq α] {c : α → Value} (hc : ∀ x y, c x = c y → x = y) (L : List α) (x : α) : idxF c L (c x) = if x ∈ L then some (.int .i64 ((ix L x : Nat) : Int)) else none := by
  unfold idxF
  by_cases hx : x ∈ L
  · have h : ∃ y ∈ L, c y = c x := ⟨x, hx, rfl⟩
    rw [dif_pos h, if_pos hx, hc _ _ h.choose_spec.2]
  · rw [dif_neg (by rintro ⟨y, hy, e⟩; exact hx (hc _ _ e ▸ hy)), if_neg hx]
def putL {α : Type} [DecidableEq α] (L : List α) (x : α) : List α := if x ∈ L then L else L ++ [x]
theorem idxF_put {α : Type} [DecidableEq α] {c : α → Value} (hc : ∀ x y, c x = c y → x = y) (L : List α) (x : α) (hx : x ∉ L) : idxF c (L ++ [x]) (c x) = some (.int .i64 (L.length : Int)) ∧ ∀ v, v ≠ c x → idxF c (L ++ [x]) v = idxF c L v := by
  constructor
  · rw [idxF_at hc, if_pos (by simp), ix_new hx]
  · intro v hv
    by_cases h : ∃ y ∈ L, c y = v
    · obtain ⟨y, hy, rfl⟩ := h
      rw [idxF_at hc, idxF_at hc, if_pos hy, if_pos (by simp [hy]), ix_app hy]
    · unfold idxF
      rw [dif_neg h, dif_neg]
      rintro ⟨y, hy, rfl⟩
      rcases List.mem_append.1 hy with hy | hy
      · exact h ⟨y, hy, rfl⟩
      · rw [List.mem_singleton.1 hy] at hv; exact hv rfl
open Classical in
/-- a set of names seen -/
noncomputable def setF {α : Type} (c : α → Value) (L : List α) : Value → Option Value := fun v => if ∃ x ∈ L, c x = v then some (.bool true) else none
theorem setF_at {α : Type} [DecidableEq α] {c : α → Value} (hc : ∀ x y, c x = c y → x = y) (L : List α) (x : α) : setF c L (c x) = if x ∈ L then some (.bool true) else none := by
  unfold setF
  by_cases hx : x ∈ L
  · rw [if_pos ⟨x, hx, rfl⟩, if_pos hx]
  · rw [if_neg (by rintro ⟨y, hy, e⟩; exact hx (hc _ _ e ▸ hy)), if_neg hx]
theorem setF_put {α : Type} {c : α → Value} (L : List α) (x : α) : setF c (L ++ [x]) (c x) = some (.bool true) ∧ ∀ v, v ≠ c x → setF c (L ++ [x]) v = setF c L v := by
  constructor
  · unfold setF
    rw [if_pos ⟨x, by simp, rfl⟩]
  · intro v hv
    unfold setF
    have e : (∃ y ∈ L ++ [x], c y = v) ↔ ∃ y ∈ L, c y = v := by
      constructor
      · rintro ⟨y, hy, rfl⟩
        rcases List.mem_append.1 hy with hy | hy
        · exact ⟨y, hy, rfl⟩
        · rw [List.mem_singleton.1 hy] at hv; exact absurd rfl hv
      · rintro ⟨y, hy, h⟩; exact ⟨y, by simp [hy], h⟩
    by_cases h : ∃ y ∈ L, c y = v
    · rw [if_pos h, if_pos (e.2 h)]
    · rw [if_neg h, if_neg fun k => h (e.1 k)]
theorem setF_nil {α : Type} (c : α → Value) : setF c [] = fun _ => none := by
  funext v
  unfold setF
  rw [if_neg (by simp)]
theorem idxF_nil {α : Type} [DecidableEq α] (c : α → Value) : idxF c [] = fun _ => none := by
  funext v
  unfold idxF
  rw [dif_neg (by simp)]
end Go.Proofs.YtjalimkajcjapaaDoor
