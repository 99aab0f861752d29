import Derived.Test.YteeeeddeacepmaaGreatDoorChecked
import Derived.Test.YteeeeddeacepmaaGreatDoorCore
import Derived.Maps.OwnSet
import Derived.Maps.RangeWalk
namespace Go.Proofs.YteeeeddeacepmaaGreatDoor
set_option maxRecDepth 100000
open Go.RowKit B
open Go.Maps (Keyed has)
def RH (v : Value) : Option (DataW Value × List MemPlace) := some (.held v, [])
def MapF (P : Program) (k : TypeId) (w : World) (b n : Nat) (f : Value -> Option Value) : Prop :=
 ∃ D, w.ownsMap P k RH b n D /\ ∀ x kl, keyOf P k x = some kl -> (∀ z, D.atKey kl (.held z) = .held ((f x).getD z)) /\ has D kl = (f x).isSome
section
variable {P : Program} {k e t : TypeId} {w : World} {b n : Nat} {f : Value -> Option Value}
theorem MapF.made (w : World) (P : Program) (k : TypeId) : MapF P k (w.alloc (.map #[] 0)) w.heap.size 0 (fun _ => none) :=
 ⟨_, World.ownsMap_made w P k RH, fun _ _ _ => ⟨fun _ => rfl, rfl⟩⟩
theorem MapF.lt (h : MapF P k w b n f) : b < w.heap.size := by obtain ⟨D, h, _⟩ := h; exact h.lt
theorem MapF.mono (h : MapF P k w b n f) {n' : Nat} (hn : n <= n') : MapF P k w b n' f := by obtain ⟨D, h, h2⟩ := h; exact ⟨D, h.mono hn, h2⟩
theorem MapF.block {w' : World} (h : MapF P k w b n f) (hb : w'.heap[b]? = w.heap[b]?) : MapF P k w' b n f := by
 obtain ⟨D, ⟨es, c, h1, h2, h3⟩, h4⟩ := h; exact ⟨D, ⟨es, c, hb.trans h1, h2, h3⟩, h4⟩
theorem MapF.gr {w' : World} (h : MapF P k w b n f) (hg : Grow w w') : MapF P k w' b n f := h.block (hg.block b h.lt)
theorem MapF.look (h : MapF P k w b n f) (K : Keyed P k) (ht : P.underlying t = some (.map k e)) {z : Value} (hz : (zeroValue e).run P w = .ok z w) {x : Value} (hx : ∃ kl, keyOf P k x = some kl) (c : Bool) :
  (Instr.lookup t (.map (some b)) x c).run P w = .ok (if c then .tuple #[(f x).getD z, .bool (f x).isSome] else (f x).getD z) w := by
 obtain ⟨kl, hkl⟩ := hx; obtain ⟨D, h1, h2⟩ := h; obtain ⟨h3, h4⟩ := h2 x kl hkl
 cases c
 ·obtain ⟨v, ps, hr, hv⟩ := h1.lookup K ht hz (zd := .held z) (zp := []) rfl hkl
  rw [h3 z] at hv; unfold RH at hv; injection hv with hv
  injection hv with hv _
  injection hv with hv
  rw [hr, hv]; rfl
 ·obtain ⟨v, ps, hr, hv⟩ := h1.look_ok K ht hz (zd := .held z) (zp := []) rfl hkl
  rw [h3 z] at hv; unfold RH at hv; injection hv with hv
  injection hv with hv _
  injection hv with hv
  rw [hr, hv, h4]; rfl
theorem MapF.upd (h : MapF P k w b n f) (K : Keyed P k) (ht : P.underlying t = some (.map k e)) (hn : n < maxLen) {x v : Value} (hx : ∃ kl, keyOf P k x = some kl) {f' : Value -> Option Value} (h1 : f' x = some v) (h2 : ∀ y, y ≠ x -> f' y = f y) :
  ∃ w', (Instr.mapUpdate t (.map (some b)) x v).run P w = .ok () w' /\ MapF P k w' b (n + 1) f' /\ w.grownBy w' (some b) := by
 obtain ⟨kl, hkl⟩ := hx; obtain ⟨D, h3, h4⟩ := h; obtain ⟨w', hr, ho, hg⟩ := h3.update K ht hn (d := .held v) (ps := []) hkl rfl; refine ⟨w', hr, ⟨_, ho, fun y kl' hy => ?_⟩, hg⟩
 by_cases hyx : y = x
 ·subst hyx
  rw [hkl] at hy; injection hy with hy
  subst hy; rw [h1]; exact ⟨fun z => Maps.atKey_put_same h3.isMap (K.key hkl) _ _, Maps.has_put_same h3.isMap (K.key hkl) _⟩
 ·have hne : kl' ≠ kl := fun e => hyx (K.inj (e ▸ hy) hkl)
  rw [h2 y hyx]; obtain ⟨h5, h6⟩ := h4 y kl' hy; exact ⟨fun z => (Maps.atKey_put_other hne _ _).trans (h5 z), (Maps.has_put_other hne _).trans h6⟩
end
theorem exec_look {P : Program} {o : Oper} {a : Act} {w : World} (t : TypeId) (m x : Operand) (c : Bool) (ho : o.op = .lookup t m x c) {k e : TypeId} {b n : Nat} {f : Value -> Option Value} (h : MapF P k w b n f) (hm : a.eval m = .map (some b))
  (K : Keyed P k) (ht : P.underlying t = some (.map k e)) {z : Value} (hz : (zeroValue e).run P w = .ok z w) {key : Value} (hkey : a.eval x = key) (hx : ∃ kl, keyOf P k key = some kl) :
  (execOp a.eval o).run P w = .ok (.value (if c then .tuple #[(f key).getD z, .bool (f key).isSome] else (f key).getD z)) w := by
 have := h.look K ht hz hx c; subst hkey; unfold execOp; simp only [ho, hm, Sem.run_bind, Sem.run_pure, Result.andThen_ok, this]
theorem wpList_look {P : Program} (w : World) {ops : Array Oper} {rest : List Oper} {o : Oper} {a : Act} {Q : Exit -> Act -> World -> Prop} (hg : o.guard = none) (t : TypeId) (m x : Operand) (c : Bool) (ho : o.op = .lookup t m x c) {k e : TypeId} {b n : Nat} {f : Value -> Option Value} (h : MapF P k w b n f) (hm : a.eval m = .map (some b))
  (K : Keyed P k) (ht : P.underlying t = some (.map k e)) {z : Value} (hz : (zeroValue e).run P w = .ok z w) {key : Value} (hkey : a.eval x = key) (hx : ∃ kl, keyOf P k key = some kl)
  (hK : wpList P ops Q rest (a.put o.dst (if c then .tuple #[(f key).getD z, .bool (f key).isSome] else (f key).getD z)) w) : wpList P ops Q (o :: rest) a w := by
 refine wpList_plain hg fun K' hK' => ?_
 have := exec_look t m x c ho h hm K ht hz hkey hx; unfold Oper.wp; rw [this]; exact hK' _ _ hK
theorem wpList_lookok {P : Program} (w : World) {ops : Array Oper} {rest : List Oper} {o : Oper} {a : Act} {Q : Exit -> Act -> World -> Prop} (hg : o.guard = none) (t : TypeId) (m x : Operand) (ho : o.op = .lookup t m x true) {k e : TypeId} {b n : Nat} {f : Value -> Option Value} (h : MapF P k w b n f) (hm : a.eval m = .map (some b))
  (K : Keyed P k) (ht : P.underlying t = some (.map k e)) {z : Value} (hz : (zeroValue e).run P w = .ok z w) {key : Value} (hkey : a.eval x = key) (hx : ∃ kl, keyOf P k key = some kl) {v : Value} {ok : Bool} (hv : (f key).getD z = v) (hok : (f key).isSome = ok)
  (hK : wpList P ops Q rest (a.put o.dst (.tuple #[v, .bool ok])) w) : wpList P ops Q (o :: rest) a w := by
 refine wpList_look w hg t m x true ho h hm K ht hz hkey hx ?_; rw [hv, hok]; exact hK
theorem wpList_look1 {P : Program} (w : World) {ops : Array Oper} {rest : List Oper} {o : Oper} {a : Act} {Q : Exit -> Act -> World -> Prop} (hg : o.guard = none) (t : TypeId) (m x : Operand) (ho : o.op = .lookup t m x false) {k e : TypeId} {b n : Nat} {f : Value -> Option Value} (h : MapF P k w b n f) (hm : a.eval m = .map (some b))
  (K : Keyed P k) (ht : P.underlying t = some (.map k e)) {z : Value} (hz : (zeroValue e).run P w = .ok z w) {key : Value} (hkey : a.eval x = key) (hx : ∃ kl, keyOf P k key = some kl) {v : Value} (hv : (f key).getD z = v)
  (hK : wpList P ops Q rest (a.put o.dst v) w) : wpList P ops Q (o :: rest) a w := by
 refine wpList_look w hg t m x false ho h hm K ht hz hkey hx ?_; subst hv; exact hK
theorem wpList_upd {P : Program} (w : World) {ops : Array Oper} {rest : List Oper} {o : Oper} {a : Act} {Q : Exit -> Act -> World -> Prop} (hg : o.guard = none) (t : TypeId) (m x v : Operand) (ho : o.op = .mapUpdate t m x v) {k e : TypeId} {b n : Nat} {f : Value -> Option Value} (h : MapF P k w b n f) (hm : a.eval m = .map (some b))
  (K : Keyed P k) (ht : P.underlying t = some (.map k e)) (hn : n < maxLen) {key val : Value} (hkey : a.eval x = key) (hval : a.eval v = val) (hx : ∃ kl, keyOf P k key = some kl) {f' : Value -> Option Value} (h1 : f' key = some val) (h2 : ∀ y, y ≠ key -> f' y = f y)
  (hK : ∀ w', MapF P k w' b (n + 1) f' -> w.grownBy w' (some b) -> wpList P ops Q rest (a.put o.dst undef) w') : wpList P ops Q (o :: rest) a w := by
 refine wpList_plain hg fun K' hK' => ?_
 obtain ⟨w', hr, r1, r2⟩ := h.upd K ht hn hx h1 h2; subst hkey; subst hval; unfold Oper.wp; simp [execOp, ho, hm, hr, Result.andThen]
 exact hK' _ _ (hK w' r1 r2)
theorem str_key {P : Program} {k : TypeId} (hk : P.underlying k = some .string) {s : ByteArray} (hs : s.size <= maxLen) : ∃ kl, keyOf P k (.string s) = some kl := ⟨.string s.data.toList, by simp [keyOf, hk, mapKey, hs]⟩
theorem keyS : Keyed Tryz.prog 9 := Maps.string_keyed Tryz.underlying9
theorem strKey {s : ByteArray} (hs : s.size <= maxLen) : ∃ kl, keyOf Tryz.prog 9 (.string s) = some kl := str_key Tryz.underlying9 hs
theorem key_str {key : Value} {kl : Lit} (h : keyOf Tryz.prog 9 key = some kl) : ∃ s : ByteArray, key = .string s := by
 cases key <;> simp [keyOf, Tryz.underlying9, mapKey] at h
 exact ⟨_, rfl⟩
def MapG (k : TypeId) (w : World) (b r n : Nat) (f : Value -> Option Value) (cnt : Nat) : Prop :=
 ∃ D left, w.ranges Tryz.prog k RH b r n D left cnt /\ (∀ kl, left kl = true -> has D kl = true) /\ ∀ x kl, keyOf Tryz.prog k x = some kl -> (∀ z, D.atKey kl (.held z) = .held ((f x).getD z)) /\ has D kl = (f x).isSome
theorem MapG.map {k : TypeId} {w : World} {b r n cnt : Nat} {f : Value -> Option Value} (h : MapG k w b r n f cnt) : MapF Tryz.prog k w b n f := by
 obtain ⟨D, left, hr, h1, h2⟩ := h; exact ⟨D, hr.owns, h2⟩
theorem MapG.left {k : TypeId} {w : World} {b r n cnt : Nat} {f : Value -> Option Value} (h : MapG k w b r n f cnt) : w.rangeLeft b r = cnt := by
 obtain ⟨D, left, hr, h1, h2⟩ := h; exact hr.left_eq
theorem wpList_rangeF (w : World) {ops : Array Oper} {rest : List Oper} {o : Oper} {a : Act} {Q : Exit -> Act -> World -> Prop} (hg : o.guard = none) (t : TypeId) (m : Operand) (ho : o.op = .range t m) {k e : TypeId} {b n : Nat} {f : Value -> Option Value} (h : MapF Tryz.prog k w b n f) (hm : a.eval m = .map (some b))
  (K : Keyed Tryz.prog k) (ht : Tryz.prog.underlying t = some (.map k e))
  (hK : ∀ w' cnt, MapG k w' b w.heap.size n f cnt -> w.grownBy w' none -> w'.heap.size = w.heap.size + 1 -> wpList Tryz.prog ops Q rest (a.put o.dst (.pointer (some ⟨w.heap.size, 0, none⟩))) w') : wpList Tryz.prog ops Q (o :: rest) a w := by
 obtain ⟨D, h1, h2⟩ := h; refine wpList_range_own w hg m t ho k e K ht RH b n D hm h1 fun w' hr hg' hs => ?_
 exact hK w' _ ⟨D, _, hr, fun _ h => h, h2⟩ hg' hs
theorem wpList_nextS (w : World) {ops : Array Oper} {rest : List Oper} {o : Oper} {a : Act} {Q : Exit -> Act -> World -> Prop} (hg : o.guard = none) (it : Operand) (ho : o.op = .next it false) {b r n cnt : Nat} {f : Value -> Option Value} (h : MapG 9 w b r n f cnt) (hit : a.eval it = .pointer (some ⟨r, 0, none⟩))
  (hDone : wpList Tryz.prog ops Q rest (a.put o.dst (.tuple #[.bool false])) w)
  (hMore : ∀ (s : ByteArray) (v : Value) w' cnt', f (.string s) = some v -> MapG 9 w' b r n f cnt' -> cnt' < cnt -> w.grownBy w' (some r) -> w'.heap.size = w.heap.size -> (Instr.entry (.pointer (some ⟨r, 0, none⟩))).run Tryz.prog w' = .ok (.tuple #[.string s, v]) w' -> wpList Tryz.prog ops Q rest (a.put o.dst (.tuple #[.bool true, .string s, v])) w') :
  wpList Tryz.prog ops Q (o :: rest) a w := by
 obtain ⟨D, left, hr, h1, h2⟩ := h; refine wpList_next_ranges w hg it ho 9 keyS RH (fun s : ByteArray => .string s) (fun v : Value => v) (fun key kl hk => key_str hk) (fun v y _ => ⟨v, rfl⟩) b r n D left cnt hit hr (fun _ _ => hDone) ?_; intro s v kl y w' cnt' hk hl hv hat hr' hlt hg' hs hen; obtain ⟨e1, e2⟩ := h2 (.string s) kl hk; rw [h1 kl hl] at e2; have hv' : y.1 = .held v := (congrArg Prod.fst (Option.some.inj (show some (DataW.held v, ([] : List MemPlace)) = some y from hv))).symm; have e3 := e1 v; rw [hat, hv'] at e3; obtain ⟨u, hu⟩ := Option.isSome_iff_exists.1 e2.symm
 have e4 := e1 (.bool true); rw [hat, hv', hu] at e4; injection e4 with e4
 have e5 : v = u := e4; subst e5; exact hMore s v w' cnt' hu ⟨D, _, hr', fun z hz => h1 z (by simp only [Bool.and_eq_true] at hz; exact hz.1), h2⟩ hlt hg' hs hen
end Go.Proofs.YteeeeddeacepmaaGreatDoor
namespace Go.Proofs.YteeeeddeacepmaaGreatDoor
set_option maxRecDepth 100000
open Go.RowKit B
structure Srv (w0 : World) (s c m r : Nat) (W : World) : Prop where
 sv : BoxH w0 s #[.pointer (some ⟨c, 0, none⟩), .int .i64 0, .slice none 0 0, .slice none 0 0] 128 W
 ca : BoxH w0 c #[.int .i64 0, .int .i64 0, .map (some m), .pointer (some ⟨r, 0, none⟩), .int .i64 0, .int .i64 0, .int .i64 0] 171 W
 mp : MapF Tryz.prog 9 W m 0 fun _ => none
 ml : w0.heap.size <= m
 ne : c < s
theorem Srv.tr {w0 W W' : World} {s c m r : Nat} (h : Srv w0 s c m r W) (hg : Grow W W') : Srv w0 s c m r W' :=
 ⟨h.sv.tr hg, h.ca.tr hg, h.mp.gr hg, h.ml, h.ne⟩
theorem Srv.gr {w0 W : World} {s c m r : Nat} (h : Srv w0 s c m r W) : Grow w0 W := h.sv.grow
set_option maxHeartbeats 2000000 in
theorem copyFiles_nil (w : World) {R : Ending -> World -> Prop} (hR : ∀ w', Grow w w' -> R (.returned (.slice none 0 0)) w') :
  Calls Tryz.prog 53 #[.slice none 0 0] w R := by
 have HR := Lh hR; clear hR; go_enter Tryz.func53, Tryz.ntmps53
 go_wp2
 go_loopw [3, 8] (fun o i wr => o = .slice none 0 0 /\ i = .int .i64 0 /\ Hid (Grow w wr)) (fun _ _ _ => 0)
 case atStart => exact ⟨rfl, rfl, Grow.refl _⟩
 case round =>
  obtain ⟨rfl, rfl, hg⟩ := hrel; go_wp2; exact HR.out _ hg.out
set_option maxHeartbeats 2000000 in
theorem copyAll_nil (w : World) {R : Ending -> World -> Prop} (hR : ∀ w', Grow w w' -> R (.returned (.slice none 0 0)) w') :
  Calls Tryz.prog 54 #[.slice none 0 0] w R := by
 have HR := Lh hR; clear hR; go_enter Tryz.func54, Tryz.ntmps54
 go_wp2
 go_loopw [3, 10] (fun o i wr => o = .slice none 0 0 /\ i = .int .i64 0 /\ Hid (Grow w wr)) (fun _ _ _ => 0)
 case atStart => exact ⟨rfl, rfl, Grow.refl _⟩
 case round =>
  obtain ⟨rfl, rfl, hg⟩ := hrel; go_wp2; exact HR.out _ hg.out
set_option maxHeartbeats 2000000 in
theorem lruNew (w : World) {R : Ending -> World -> Prop} (hR : ∀ c m r w', BoxH w c #[.int .i64 0, .int .i64 0, .map (some m), .pointer (some ⟨r, 0, none⟩), .int .i64 0, .int .i64 0, .int .i64 0] 171 w' -> MapF Tryz.prog 9 w' m 0 (fun _ => none) -> w.heap.size <= m -> R (.returned (.pointer (some ⟨c, 0, none⟩))) w') :
  Calls Tryz.prog 52 #[.int .i64 0, .int .i64 0] w R := by
 have HR := Lh hR; clear hR; have hmm := @run_makeMap Tryz.prog; go_enter Tryz.func52, Tryz.ntmps52
 go_wp2
 obtain ⟨wa, hwa⟩ : ∃ wa, wa = w.alloc (.cells #[.string ⟨#[]⟩, .slice none 0 0, .pointer (some ⟨w.heap.size, 0, none⟩), .pointer (some ⟨w.heap.size, 0, none⟩)] 168) := ⟨_, rfl⟩
 have GA : Grow w wa := by subst hwa; exact (Grow.refl _).al _
 have SZ : wa.heap.size = w.heap.size + 1 := by subst hwa; exact World.size_alloc _ _
 have e1 : w.heap.size + 1 = wa.heap.size := SZ.symm; have BC := BoxH.laid (w0 := w) (w := wa.alloc (.map #[] 0)) #[.int .i64 0, .int .i64 0, .map (some wa.heap.size), .pointer (some ⟨w.heap.size, 0, none⟩), .int .i64 0, .int .i64 0, .int .i64 0] 171 (GA.al _); have MP := (MapF.made wa Tryz.prog 9).gr ((Grow.refl _).al (.cells #[.int .i64 0, .int .i64 0, .map (some wa.heap.size), .pointer (some ⟨w.heap.size, 0, none⟩), .int .i64 0, .int .i64 0, .int .i64 0] 171)); rw [World.size_alloc] at BC; subst hwa; rw [World.size_alloc] at BC MP; exact HR.out _ _ _ _ BC MP (Nat.le_succ _)
set_option maxHeartbeats 2000000 in
theorem proxyNew (w : World) {R : Ending -> World -> Prop} (hR : ∀ s c m r w', Srv w s c m r w' -> R (.returned (.pointer (some ⟨s, 0, none⟩))) w') :
  Calls Tryz.prog 37 #[.slice none 0 0, .slice none 0 0, .int .i64 0, .int .i64 0] w R := by
 have HR := Lh hR; clear hR; go_enter Tryz.func37, Tryz.ntmps37
 go_wp2_with fail
 go_at_call 52; refine lruNew _ ?_; intro c m r w1 hB hM hm; have BC := Lh hB; have MP := Lh hM; have ML := Lh hm; clear hB hM hm; go_wp2_with fail
 go_at_call 53; refine copyFiles_nil _ ?_; intro w2 hg2; have BC := Lh ((BC.out : BoxH w _ _ _ w1).tr hg2); have MP := Lh (MP.out.gr hg2); clear hg2; go_wp2_with fail
 go_at_call 54; refine copyAll_nil _ ?_; intro w3 hg3; have BC := Lh (BC.out.tr hg3); have MP := Lh (MP.out.gr hg3); clear hg3; have GA : Hid (Grow w3 (w3.alloc (.cells #[.pointer (some ⟨c, 0, none⟩), .int .i64 0, .slice none 0 0, .slice none 0 0] 128))) := (Grow.refl _).al _; have BS := Lh (BoxH.laid (w0 := w) #[.pointer (some ⟨c, 0, none⟩), .int .i64 0, .slice none 0 0, .slice none 0 0] 128 BC.out.grow); go_wp2; exact HR.out _ c m r _ ⟨BS.out, BC.out.tr GA.out, MP.out.gr GA.out, ML.out, BC.out.lt⟩
end Go.Proofs.YteeeeddeacepmaaGreatDoor
