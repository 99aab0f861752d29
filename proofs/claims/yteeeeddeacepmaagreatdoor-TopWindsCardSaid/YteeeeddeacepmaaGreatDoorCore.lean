import Derived.WalkKit
import Derived.WalkLawsBesides
import Derived.WalkSpells
import Derived.WalkSmall
import Derived.Outline
import Derived.Lib.Hide
import Derived.Deep.QuietTactic
import Derived.BigQuiet
import Derived.Deep.LoopGhost
import Derived.Maps.AppendAt
import Derived.OwnWalk
import Derived.Laws.IdiomStrings
import Derived.Laws.BytesArg
import Derived.Handy
import Derived.Deep.RegionHeld3
import Derived.Deep.DeepFit
import Derived.OneCell
import Derived.OrdersHeld
import Derived.StillTail
namespace Go.Proofs.YteeeeddeacepmaaGreatDoor
theorem sA {α : Type _} (l : List α) (i : Nat) (a : α) : l.toArray.setIfInBounds i a = (l.set i a).toArray := List.setIfInBounds_toArray ..
theorem sZ {α : Type _} (x a : α) (l : List α) : (x :: l).set 0 a = a :: l := List.set_cons_zero ..
theorem sS {α : Type _} (x a : α) (l : List α) (i : Nat) : (x :: l).set (i + 1) a = x :: l.set i a := List.set_cons_succ ..
theorem Lh {p : Prop} (h : p) : Go.RowKit.Hid p := Go.Lib.hid h
end Go.Proofs.YteeeeddeacepmaaGreatDoor
namespace Go.Proofs.YteeeeddeacepmaaGreatDoor
set_option maxRecDepth 100000
open Go.RowKit
abbrev Grow (w w' : World) : Prop := Below w.heap.size w w'
theorem Grow.refl (w : World) : Grow w w := Below.refl _ _
theorem Grow.tr {a b c : World} (h : Grow a b) (k : Grow b c) : Grow a c := Below.trans h (Below.mono k h.size)
theorem Grow.al {a b : World} (h : Grow a b) (o : Obj) : Grow a (b.alloc o) := Below.alloc h h.size o
theorem Grow.dn {a b : World} (h : Grow a b) (n : Nat) : Grow a (b.drewN n) := below_drewN h n
theorem Grow.set {a b : World} (h : Grow a b) {p : Addr} (hp : a.heap.size <= p.block) (u : Value) : Grow a (b.setCell p u) := Below.setCell h hp u
theorem Grow.dr {w w' : World} (h : Grow w w') : Grow w w'.drew := Below.drew h
theorem grow_drew {w w' : World} (h : Grow w.drew w') : Grow w w' := ⟨h.os, h.tape, h.output, h.size, h.block⟩
theorem drewN_ex (w : World) (n m : Nat) : ∃ k, (w.drewN n).drewN m = w.drewN k := ⟨n + m, World.drewN_drewN _ _ _⟩
def Rd (w : World) (S : Nat -> Prop) (size : Nat) (v : Value) (n : Nat) (xs : List Value) : Prop :=
 xs.length = n * size /\ ∃ A c, v = .slice A n c /\ n <= c /\ c <= maxLen /\ (A = none -> c = 0) /\
  (0 < n -> ∃ b o, A = some ⟨b, o, none⟩ /\ S b /\ ∀ j u, xs[j]? = some u -> w.cell? ⟨b, o + j, none⟩ = some u)
def U8 (l : List UInt8) : List Value := l.map fun b => .int .u8 b.toNat
theorem U8_len (l : List UInt8) : (U8 l).length = l.length := by simp [U8]
theorem U8_at (l : List UInt8) (k : Nat) (h : k < l.length) : (U8 l)[k]? = some (.int .u8 l[k].toNat) := by simp [U8, h]
section
variable {w w' : World} {S T : Nat -> Prop} {size n : Nat} {v : Value} {xs : List Value}
theorem Rd.nil : Rd w S size (.slice none 0 0) 0 [] :=
 ⟨by simp, none, 0, rfl, Nat.le_refl _, Nat.zero_le _, fun _ => rfl, fun h => absurd h (by omega)⟩
theorem Rd.len (h : Rd w S size v n xs) : xs.length = n * size := h.1
theorem Rd.keep (h : Rd w S size v n xs) (hk : ∀ b, S b -> w'.heap[b]? = w.heap[b]?) : Rd w' S size v n xs := by
 obtain ⟨hl, A, c, hv, h1, h2, h3, h4⟩ := h; refine ⟨hl, A, c, hv, h1, h2, h3, fun hn => ?_⟩; obtain ⟨b, o, hA, hS, hc⟩ := h4 hn; exact ⟨b, o, hA, hS, fun j u hu => (World.cell?_of_block (w := w) (a := ⟨b, o + j, none⟩) (hk b hS)).trans (hc j u hu)⟩
theorem Rd.into (h : Rd w S size v n xs) (hk : ∀ b, S b -> T b) : Rd w T size v n xs := by
 obtain ⟨hl, A, c, hv, h1, h2, h3, h4⟩ := h; refine ⟨hl, A, c, hv, h1, h2, h3, fun hn => ?_⟩; obtain ⟨b, o, hA, hS, hc⟩ := h4 hn; exact ⟨b, o, hA, hk b hS, hc⟩
theorem Rd.grow {B : Nat} (h : Rd w (· < B) size v n xs) (hg : Below B w w') : Rd w' (· < B) size v n xs := h.keep fun b hb => hg.block b hb
theorem Rd.up {B C : Nat} (h : Rd w (· < B) size v n xs) (hBC : B <= C) : Rd w (· < C) size v n xs := h.into fun _ hb => Nat.lt_of_lt_of_le hb hBC
theorem Rd.lt (h : Rd w S size v n xs) (h0 : 0 < size) : Rd w (· < w.heap.size) size v n xs := by
 obtain ⟨hl, A, c, hv, h1, h2, h3, h4⟩ := h; refine ⟨hl, A, c, hv, h1, h2, h3, fun hn => ?_⟩; obtain ⟨b, o, hA, _, hc⟩ := h4 hn; have hx : 0 < xs.length := by rw [hl]; exact Nat.mul_pos hn h0
 exact ⟨b, o, hA, World.block_lt_of_cell? w _ (hc 0 xs[0] (List.getElem?_eq_getElem hx)), hc⟩
theorem Rd.al (h : Rd w S size v n xs) (h0 : 0 < size) (o : Obj) : Rd (w.alloc o) (· < w.heap.size) size v n xs :=
 (h.lt h0).keep fun b hb => Below.heap_alloc w o b hb
theorem Rd.gr (h : Rd w S size v n xs) (h0 : 0 < size) (hg : Grow w w') : Rd w' (· < w.heap.size) size v n xs :=
 (h.lt h0).keep fun b hb => hg.block b hb
theorem Rd.own {base : Nat} {e : TypeId} (h : w.ownsRow base e size v n xs) : Rd w (fun b => some b = v.ownBlock) size v n xs := by
 refine ⟨h.1, ?_⟩
 rcases h.2 with ⟨rfl, rfl⟩ | ⟨g, cap, cur, rfl, hb, hg, hnc, hcm, hcs, htake⟩
 ·exact ⟨none, 0, rfl, Nat.le_refl _, Nat.zero_le _, fun _ => rfl, fun h => absurd h (by omega)⟩
 ·refine ⟨_, cap, rfl, hnc, hcm, fun h => (nomatch h), fun hn => ⟨g, 0, rfl, rfl, fun j u hu => ?_⟩⟩
  have hj : j < n * size := by rw [<- h.1]; exact (List.getElem?_eq_some_iff.1 hu).1
  rw [Nat.zero_add, World.ownsRow.cellAt h j hj]; exact hu
theorem Rd.own_lt {base : Nat} {e : TypeId} (h : w.ownsRow base e size v n xs) : Rd w (· < w.heap.size) size v n xs :=
 (Rd.own h).into fun b hb => (h.lt b hb.symm).2
end
structure Elem (P : Program) (t e : TypeId) (z : Value) (size bytes : Nat) : Prop where
 ht : P.underlying t = some (.slice e)
 hi : (P.info? e).map (fun i => (i.zero, i.size, i.bytes)) = some (some z, size, bytes)
 hz : z.cells.size = size
 h0 : 0 < size
 hb : 0 < bytes
section
variable {P : Program} {w : World} {t e : TypeId} {z : Value} {size bytes : Nat}
theorem run_app (E : Elem P t e z size bytes) (ty : TypeId) {base : Nat} {v : Value} {n : Nat} {xs : List Value} (hown : w.ownsRow base e size v n xs)
  {S : Nat -> Prop} {src : Value} {m : Nat} {news : List Value} (hr : Rd w S size src m news) (h1 : ∀ u ∈ news, u.oneCell' = true)
  (hn : (n + m) * bytes <= 140737488355328) (hbase : base <= w.heap.size) :
  ∃ v' w', (Builtin.append_ #[t, t] ty #[v, src]).run P w = .ok v' w' /\ w'.ownsRow base e size v' (n + m) (xs ++ news) /\ w.grownBy w' v.ownBlock /\ (v'.ownBlock = v.ownBlock ∨ v'.ownBlock = some w.heap.size) := by
 obtain ⟨i, hi, hz0, hz1, hz2⟩ := info_parts E.hi
 have h63 : n + m <= maxLen := by
  have := Nat.le_trans (Nat.le_mul_of_pos_right (n + m) E.hb) hn; simp only [maxLen]; omega
 obtain ⟨hl, A, c, rfl, h2, h3, h4, h5⟩ := hr; rcases A with _ | ad
 ·have hc := h4 rfl
  subst hc; obtain rfl : m = 0 := by omega
  have hnil : news = [] := List.eq_nil_of_length_eq_zero (by simpa using hl); subst hnil; exact ⟨v, w, run_append_owned_none (P := P) w base t ty e i size E.ht hi v n xs hown, by simpa using hown, World.grownBy.refl w _, .inl rfl⟩
 ·have hcells : ∀ j u, news[j]? = some u -> w.cell? (ad.add j) = some u := by
   intro j u hu; rcases Nat.eq_zero_or_pos m with h0 | h0
   ·subst h0
    have hnil : news = [] := List.eq_nil_of_length_eq_zero (by simpa using hl); subst hnil; simp at hu
   ·obtain ⟨b, o, ha, _, hc⟩ := h5 h0
    injection ha with ha
    subst ha; rw [Addr.add_lit]; exact hc j u hu
  obtain ⟨v', w', hrun, k2, k3, _, k5⟩ := run_append_own_at (P := P) w base t ty e i z size bytes E.ht hi hz0 hz1 hz2 E.hz E.h0 v n xs hown ad m c news hl hcells h1 h63 hn hbase; exact ⟨v', w', hrun, k2, k3, k5⟩
theorem wpList_app {ops : Array Oper} {rest : List Oper} {o : Oper} {a : Act} {Q : Exit -> Act -> World -> Prop} (hgd : o.guard = none) (s x : Operand)
  (ho : o.op = .call { callee := .builtin .append, args := #[s, x], argTypes := #[t, t] })
  (E : Elem P t e z size bytes) {base : Nat} {v : Value} {n : Nat} {xs : List Value} (hown : w.ownsRow base e size v n xs) (hs : a.eval s = v)
  {S : Nat -> Prop} {src : Value} {m : Nat} {news : List Value} (hr : Rd w S size src m news) (hx : a.eval x = src) (h1 : ∀ u ∈ news, u.oneCell' = true)
  (hn : (n + m) * bytes <= 140737488355328) (hbase : base <= w.heap.size)
  (h : ∀ v' w', w'.ownsRow base e size v' (n + m) (xs ++ news) -> w.grownBy w' v.ownBlock -> (v'.ownBlock = v.ownBlock ∨ v'.ownBlock = some w.heap.size) -> wpList P ops Q rest (a.put o.dst v') w') : wpList P ops Q (o :: rest) a w := by
 refine wpList_plain hgd fun K hK => ?_
 obtain ⟨v', w', hrun, h2, h3, h4⟩ := run_app E o.type hown hr h1 hn hbase; unfold Oper.wp execOp; simp only [ho, resolve, invoke, builtin, Sem.run_bind, Sem.run_pure, Result.andThen_ok, List.map_toArray, List.map_cons, List.map_nil, hs, hx, hrun]; exact hK _ _ (h v' w' h2 h3 h4)
theorem Rd.lit (w : World) (cs : Array Value) (e : TypeId) (n : Nat) (hm : n <= maxLen) (hs : cs.size = n * size) : Rd (w.alloc (.cells cs e)) (fun b => b = w.heap.size) size (.slice (some ⟨w.heap.size, 0, none⟩) n n) n cs.toList := by
 have h := Rd.own (World.ownsRow_lit (base := w.heap.size) (e := e) w cs n (Nat.le_refl _) hm hs); exact h.into fun b hb => by simpa [Value.ownBlock] using hb
theorem grow_app {w0 w' : World} {row : Option Nat} (h : Grow w0 w) (hg : w.grownBy w' row) (hr : ∀ k, row = some k -> w0.heap.size <= k) : Grow w0 w' := Below.grown h hg h.size hr
theorem own_ge {base : Nat} {v : Value} {n : Nat} {xs : List Value} (h : w.ownsRow base e size v n xs) : ∀ k, v.ownBlock = some k -> base <= k := fun k hk => (h.lt k hk).1
theorem grow_of_alloc {w w' : World} {o : Obj} {row : Option Nat} (h : (w.alloc o).grownBy w' row) : w.grownBy w' row :=
 (World.grownBy_alloc w o row).trans h
theorem wpList_new {w0 : World} {ops : Array Oper} {rest : List Oper} {o : Oper} {a : Act} {Q : Exit -> Act -> World -> Prop} (hgd : o.guard = none) (s x : Operand)
  (ho : o.op = .call { callee := .builtin .append, args := #[s, x], argTypes := #[t, t] })
  (E : Elem P t e z size bytes) {base : Nat} {v : Value} {n : Nat} {xs : List Value} (hown : w.ownsRow base e size v n xs) (hs : a.eval s = v)
  (m : Nat) (cs : Array Value) (hx : a.eval x = .slice (some ⟨w.heap.size, 0, none⟩) m m) (hm : m <= 16) (hcs : cs.size = m * size) (h1 : ∀ u ∈ cs.toList, u.oneCell' = true)
  (hn : (n + m) * bytes <= 140737488355328) (hg : Grow w0 w) (hbase : w0.heap.size <= base /\ base <= w.heap.size)
  (h : ∀ v' w', w'.ownsRow base e size v' (n + m) (xs ++ cs.toList) -> Grow w0 w' -> w.grownBy w' v.ownBlock -> (v'.ownBlock = v.ownBlock ∨ v'.ownBlock = some (w.heap.size + 1)) -> wpList P ops Q rest (a.put o.dst v') w') :
  wpList P ops Q (o :: rest) a (w.alloc (.cells cs e)) := by
 refine wpList_app hgd s x ho E (hown.alloc _) hs (Rd.lit w cs e m (by simp only [maxLen]; omega) hcs) hx h1 hn (by rw [World.size_alloc]; omega) fun v' w' k1 k2 k3 => ?_
 refine h v' w' k1 (grow_app (hg.al _) k2 fun k hk => ?_) (grow_of_alloc k2) (by rw [World.size_alloc] at k3; exact k3); have := (hown.lt k hk).1; omega
end
theorem run_str {P : Program} {w : World} {S : Nat -> Prop} {v : Value} {l : List UInt8} (src dst e : TypeId) (hs : P.underlying src = some (.slice e)) (he : P.underlying e = some (.int .u8)) (hd : P.underlying dst = some .string)
  (h : Rd w S 1 v l.length (U8 l)) : (convert src dst v).run P w = .ok (.string ⟨l.toArray⟩) w := by
 obtain ⟨hl, A, c, rfl, h2, h3, h4, h5⟩ := h; rcases A with _ | a
 ·have hc := h4 rfl
  subst hc; obtain rfl : l = [] := List.eq_nil_of_length_eq_zero (by omega); exact run_convert_bytes_nil w src e hs he 0 0 dst hd
 ·refine run_convert_bytes_back w src dst e a c l hs he hd fun j hj => ?_
  obtain ⟨b, o, ha, _, hc⟩ := h5 (by omega); injection ha with ha
  subst ha; rw [Addr.add_lit]; exact hc j _ (U8_at l j hj)
theorem own_grow {w w' : World} {b e s n : Nat} {v : Value} {xs : List Value} (h : w.ownsRow b e s v n xs) (hg : Grow w w') : w'.ownsRow b e s v n xs :=
 h.kept (row := none) ⟨hg.os, hg.tape, hg.output, hg.size, fun k hk _ => hg.block k hk⟩ (by cases hv : v.ownBlock <;> simp)
theorem own_eq {w : World} {b e s n m : Nat} {v : Value} {xs ys : List Value} (h : w.ownsRow b e s v n xs) (hn : n = m) (hx : xs = ys) : w.ownsRow b e s v m ys := by subst hn hx; exact h
theorem own_base {w : World} {b b' e s n : Nat} {v : Value} {xs : List Value} (h : w.ownsRow b e s v n xs) (hb : b' <= b) : w.ownsRow b' e s v n xs := by
 refine ⟨h.1, ?_⟩
 rcases h.2 with hn | ⟨g, cap, cur, h1, h2, h3⟩
 ·exact .inl hn
 ·exact .inr ⟨g, cap, cur, h1, Nat.le_trans hb h2, h3⟩
theorem at_ {R : Ending -> World -> Prop} {e e' : Ending} {w : World} (hR : R e' w) (h : e = e') : R e w := h ▸ hR
def I64 (n : Int) : Prop := -9223372036854775808 <= n /\ n <= 9223372036854775807
theorem flat_len {α : Type} (g : α -> List Value) (size : Nat) (hg : ∀ a, (g a).length = size) : ∀ l : List α, (l.flatMap g).length = l.length * size
 | [] => by simp
 | a :: l => by
  rw [List.flatMap_cons, List.length_append, hg, flat_len g size hg l, List.length_cons, Nat.add_mul]; omega
theorem flat_at {α : Type} (g : α -> List Value) (size : Nat) (hg : ∀ a, (g a).length = size) : ∀ (l : List α) (i j : Nat) (hi : i < l.length), j < size -> (l.flatMap g)[i * size + j]? = (g l[i])[j]?
 | [], i, j, hi, _ => by simp at hi
 | a :: l, 0, j, _, hj => by
  rw [List.flatMap_cons, Nat.zero_mul, Nat.zero_add, List.getElem?_append_left (by rw [hg]; exact hj)]; rfl
 | a :: l, i + 1, j, hi, hj => by
  rw [List.flatMap_cons, List.getElem?_append_right (by rw [hg, Nat.add_mul]; omega), hg]; have e : (i + 1) * size + j - size = i * size + j := by rw [Nat.add_mul]; omega
  rw [e, flat_at g size hg l i j (by simpa using hi) hj]; rfl
theorem flat_cells {α : Type} {g : α -> List Value} {size : Nat} (hg : ∀ a, (g a).length = size) {l : List α} {w wr : World} {b o : Nat} (hw : Grow w wr) (hb : b < w.heap.size)
  (hc : ∀ j u, (l.flatMap g)[j]? = some u -> w.cell? ⟨b, o + j, none⟩ = some u) {i : Nat} (hi : i < l.length) : ∀ j u, (g l[i])[j]? = some u -> wr.cell? ⟨b, o + i * size + j, none⟩ = some u := by
 intro j u hu; have hj : j < size := by rw [<- hg l[i]]; exact (List.getElem?_eq_some_iff.1 hu).1
 rw [Nat.add_assoc]; exact (hw.cell (p := ⟨b, o + (i * size + j), none⟩) hb).trans (hc _ _ (by rw [flat_at g size hg l i j hi hj]; exact hu))
theorem box_at {w w1 : World} {cs : Array Value} {t : TypeId} (hg : Grow (w.alloc (.cells cs t)) w1) (j : Nat) : w1.cell? ⟨w.heap.size, j, none⟩ = cs[j]? := by
 have h := (hg.block w.heap.size (by rw [World.size_alloc]; omega)).trans (heap_alloc_new w _); exact cell_of_row w1 w.heap.size j cs t (0, 0) h
theorem grow_al {w w1 : World} {o : Obj} (hg : Grow (w.alloc o) w1) : Grow w w1 := ((Grow.refl w).al o).tr hg
theorem Rd.laid {w w1 : World} {size : Nat} (cs : Array Value) (e : TypeId) (fr : Nat × Nat) (n : Nat) (hm : n <= maxLen) (hs : cs.size = n * size) (hg : Grow (w.alloc (.cells cs e fr)) w1) :
  Rd w1 (fun b => b = w.heap.size) size (.slice (some ⟨w.heap.size, 0, none⟩) n n) n cs.toList := by
 refine ⟨by simpa using hs, _, n, rfl, Nat.le_refl _, hm, fun h => (nomatch h), fun _ => ⟨w.heap.size, 0, rfl, rfl, fun j u hu => ?_⟩⟩; have h := (hg.block w.heap.size (by rw [World.size_alloc]; omega)).trans (heap_alloc_new w _); rw [Nat.zero_add, cell_of_row w1 w.heap.size j cs e fr h]; simpa using hu
theorem Rd.by_ {w w' : World} {S : Nat -> Prop} {size n : Nat} {v : Value} {xs : List Value} {row : Option Nat} (h : Rd w S size v n xs) (h0 : 0 < size) (hg : w.grownBy w' row) (hS : ∀ b, S b -> some b ≠ row) : Rd w' S size v n xs := by
 have hl := h.lt h0; obtain ⟨hl, A, c, hv, h1, h2, h3, h4⟩ := h; refine ⟨hl, A, c, hv, h1, h2, h3, fun hn => ?_⟩; obtain ⟨b, o, hA, hSb, hc⟩ := h4 hn; refine ⟨b, o, hA, hSb, fun j u hu => ?_⟩; have hlt := World.block_lt_of_cell? w _ (hc j u hu); exact (World.cell?_of_block (w := w) (a := ⟨b, o + j, none⟩) (hg.block b hlt (hS b hSb))).trans (hc j u hu)
theorem Rd.own_from {w : World} {base e size n : Nat} {v : Value} {xs : List Value} (h : w.ownsRow base e size v n xs) : Rd w (fun b => base <= b) size v n xs :=
 (Rd.own h).into fun b hb => (h.lt b hb.symm).1
theorem Rd.gr2 {w w' : World} {S : Nat -> Prop} {size n : Nat} {v : Value} {xs : List Value} (h : Rd w S size v n xs) (h0 : 0 < size) (hg : Grow w w') : Rd w' S size v n xs :=
 h.by_ (row := none) h0 ⟨hg.os, hg.tape, hg.output, hg.size, fun k hk _ => hg.block k hk⟩ fun _ _ => by simp
end Go.Proofs.YteeeeddeacepmaaGreatDoor
namespace Go.Proofs.YteeeeddeacepmaaGreatDoor
set_option maxRecDepth 100000
open Go.RowKit
def BoxH (w0 : World) (bb : Nat) (cs : Array Value) (t : TypeId) (W : World) : Prop := Grow w0 W /\ w0.heap.size <= bb /\ W.heap[bb]? = some (.cells cs t (0, 0))
theorem BoxH.grow {w0 W : World} {bb : Nat} {cs : Array Value} {t : TypeId} (h : BoxH w0 bb cs t W) : Grow w0 W := h.1
theorem BoxH.lt {w0 W : World} {bb : Nat} {cs : Array Value} {t : TypeId} (h : BoxH w0 bb cs t W) : bb < W.heap.size := lt_of_block h.2.2
theorem BoxH.cell {w0 W : World} {bb : Nat} {cs : Array Value} {t : TypeId} (h : BoxH w0 bb cs t W) (j : Nat) : W.cell? ⟨bb, j, none⟩ = cs[j]? := cell_of_row W bb j cs t (0, 0) h.2.2
theorem BoxH.free {w0 W : World} {bb : Nat} {cs : Array Value} {t : TypeId} (h : BoxH w0 bb cs t W) (j : Nat) : W.frozen? ⟨bb, j, none⟩ = false := frozen_of_row W bb j cs t h.2.2
theorem BoxH.tr {w0 W W' : World} {bb : Nat} {cs : Array Value} {t : TypeId} (h : BoxH w0 bb cs t W) (hg : Grow W W') : BoxH w0 bb cs t W' := ⟨h.1.tr hg, h.2.1, (hg.block bb h.lt).trans h.2.2⟩
theorem BoxH.laid {w0 w : World} (cs : Array Value) (t : TypeId) (h : Grow w0 w) : BoxH w0 w.heap.size cs t (w.alloc (.cells cs t)) := ⟨h.al _, h.size, heap_alloc_new w _⟩
theorem BoxH.set {w0 W : World} {bb : Nat} {cs : Array Value} {t : TypeId} (h : BoxH w0 bb cs t W) (j : Nat) (v : Value) : BoxH w0 bb (cs.setIfInBounds j v) t (W.setCell ⟨bb, j, none⟩ v) := by
 refine ⟨h.1.set (p := ⟨bb, j, none⟩) h.2.1 v, h.2.1, ?_⟩; simp [World.setCell, Array.getElem?_modify, h.2.2]
theorem BoxH.by_ {w0 W W' : World} {bb : Nat} {cs : Array Value} {t : TypeId} {row : Option Nat} (h : BoxH w0 bb cs t W) (hg : W.grownBy W' row) (hw : ∀ k, row = some k -> w0.heap.size <= k) (hne : some bb ≠ row) : BoxH w0 bb cs t W' :=
 ⟨grow_app h.1 hg hw, h.2.1, (hg.block bb h.lt hne).trans h.2.2⟩
theorem BoxH.base {w0 w1 W : World} {bb : Nat} {cs : Array Value} {t : TypeId} (h : BoxH w1 bb cs t W) (hg : Grow w0 w1) : BoxH w0 bb cs t W := ⟨hg.tr h.1, Nat.le_trans hg.size h.2.1, h.2.2⟩
theorem wpList_newAt {P : Program} {w : World} {t e : TypeId} {z : Value} {size bytes : Nat} {w0 : World} {ops : Array Oper} {rest : List Oper} {o : Oper} {a : Act} {Q : Exit -> Act -> World -> Prop} (hgd : o.guard = none) (s x : Operand)
  (ho : o.op = .call { callee := .builtin .append, args := #[s, x], argTypes := #[t, t] })
  (E : Elem P t e z size bytes) {base : Nat} {v : Value} {n : Nat} {xs : List Value} (hown : w.ownsRow base e size v n xs) (hs : a.eval s = v)
  (m g : Nat) (hgz : w.heap.size = g) (cs : Array Value) (hx : a.eval x = .slice (some ⟨g, 0, none⟩) m m) (hm : m <= 16) (hcs : cs.size = m * size) (h1 : ∀ u ∈ cs.toList, u.oneCell' = true)
  (hn : (n + m) * bytes <= 140737488355328) (hg : Grow w0 w) (hbase : w0.heap.size <= base /\ base <= w.heap.size)
  (h : ∀ v' w', w'.ownsRow base e size v' (n + m) (xs ++ cs.toList) -> Grow w0 w' -> w.grownBy w' v.ownBlock -> (v'.ownBlock = v.ownBlock ∨ v'.ownBlock = some (w.heap.size + 1)) -> wpList P ops Q rest (a.put o.dst v') w') :
  wpList P ops Q (o :: rest) a (w.alloc (.cells cs e)) := by
 subst hgz; exact wpList_new hgd s x ho E hown hs m cs hx hm hcs h1 hn hg hbase h
theorem BoxH.other {w0 W : World} {bb cc j : Nat} {cs : Array Value} {t : TypeId} {v : Value} (h : BoxH w0 bb cs t W) (hne : bb ≠ cc) (hcc : w0.heap.size <= cc) : BoxH w0 bb cs t (W.setCell ⟨cc, j, none⟩ v) := by
 refine ⟨h.1.set (p := ⟨cc, j, none⟩) hcc v, h.2.1, ?_⟩; have h2 := h.2.2; simp [World.setCell, Array.getElem?_modify, h2, hne.symm]
theorem own_slice {w : World} {base e size n : Nat} {v : Value} {xs : List Value} (h : w.ownsRow base e size v n xs) : ∃ A c, v = .slice A n c := by
 obtain ⟨_, A, c, h, _⟩ := Rd.own h; exact ⟨A, c, h⟩
theorem own_set {w : World} {base e size n bb j : Nat} {v u : Value} {xs : List Value} (h : w.ownsRow base e size v n xs) (hne : v.ownBlock ≠ some bb) : (w.setCell ⟨bb, j, none⟩ u).ownsRow base e size v n xs := ownsRow_setCell_other h (a := ⟨bb, j, none⟩) hne u
theorem size_setCell (w : World) (a : Addr) (v : Value) : (w.setCell a v).heap.size = w.heap.size := by simp [World.setCell]
end Go.Proofs.YteeeeddeacepmaaGreatDoor
namespace Go.Proofs.YteeeeddeacepmaaGreatDoor.B
set_option maxRecDepth 100000
open Go.RowKit
def turns (o : Oper) : Bool :=
 match o.op with
 | .call c => match c.callee with | .builtin .len => false | .builtin .min => false | .builtin .max => false | .builtin .cap => false | _ => true
 | .alloc _ | .box .. | .buildSlice .. | .makeSlice .. | .store .. | .makeFunc .. | .makeMap .. | .mapUpdate .. | .lookup .. | .insert .. | .typeAssert .. | .makeInterface .. | .panic _ | .entryStore .. | .mapEntry .. => true
 | _ => false
section
variable {P : Program} {ops : Array Oper} {Q : Exit -> Act -> World -> Prop}
def LexG (P : Program) (ops : Array Oper) (Q : Exit -> Act -> World -> Prop) : List Nat -> (World -> Prop) -> Act -> World -> Prop
 | [], _, a, w => Q .normal a w
 | i :: rest, G, a, w => ∃ o, ops[i]? = some o /\
   ((∃ v, YieldsIf P ops G o v a /\ LexG P ops Q rest G (a.put o.dst v) w) ∨
    (turns o = true /\ wpOp P ops Q i (fun a' w' => ∃ G' : World -> Prop, (∀ W, G' W -> G W) /\ G' w' /\ LexG P ops Q rest G' a' w') a w))
def lexOk (ops : Array Oper) : List Nat -> Array Bool -> Bool
 | [], listed => (Region.ready .any ops listed).isEmpty
 | i :: rest, listed =>
  (match ops[i]? with
   | none => false
   | some o => if turns o then Region.ready .any ops listed == [i] else Region.free .any ops listed i && (Region.ready .any ops listed).contains i) &&
  lexOk ops rest (listed.setIfInBounds i true)
theorem heldMono {S S' : World -> Prop} (h : ∀ w, S' w -> S w) : ∀ (fuel : Nat) (listed : Array Bool) (a : Act) (w : World), wpAnyH P .any ops Q S' fuel listed a w -> wpAnyH P .any ops Q S fuel listed a w
 | 0, _, _, _, hh => hh
 | fuel + 1, _, _, _, hh => ⟨hh.1, fun i hi => wpOp_mono (fun a' w' h' => ⟨h _ h'.1, heldMono h fuel _ a' w' h'.2⟩) (hh.2 i hi)⟩
theorem lexG_held (hs : Region.noSelect ops = true) (hQ : ∀ (c : List PanicEntry) (a : Act) (d : Option Tmp) (v : Value) (w : World), Q (.panic c) (a.put d v) w -> Q (.panic c) a w) :
  ∀ (ord : List Nat) (G : World -> Prop) (listed : Array Bool) (a : Act) (w : World), lexOk ops ord listed = true -> G w -> LexG P ops Q ord G a w -> wpAnyH P .any ops Q G ord.length listed a w
 | [], G, listed, a, w, hok, _, h => by
  have hr : Region.ready .any ops listed = [] := by simpa [lexOk] using hok
  exact ⟨hr, h⟩
 | i :: rest, G, listed, a, w, hok, hG, h => by
  obtain ⟨o, ho, hc⟩ := h; simp only [lexOk, ho, Bool.and_eq_true] at hok; obtain ⟨h1, h2⟩ := hok
  rcases hc with ⟨v, hy, hn⟩ | ⟨ht, hw⟩
  ·have ih := lexG_held hs hQ rest G _ _ w h2 hG hn
   split at h1
   ·have hr : Region.ready .any ops listed = [i] := by simpa using h1
    refine wpAnyH_all hr (by simp) fun j hj => ?_
    obtain rfl : j = i := by simpa using hj
    exact hy.wpOp ho hG ⟨hG, ih⟩
   ·simp only [Bool.and_eq_true] at h1
    exact wpAnyH_take ho hs h1.1 h1.2 (fun c a w => hQ c a o.dst v w) hy hG ih
  ·rw [if_pos ht] at h1
   have hr : Region.ready .any ops listed = [i] := by simpa using h1
   refine wpAnyH_all hr (by simp) fun j hj => ?_
   obtain rfl : j = i := by simpa using hj
   refine wpOp_mono (fun a' w' h' => ?_) hw; obtain ⟨G', hGG, hG', hl⟩ := h'; exact ⟨hGG _ hG', heldMono hGG _ _ _ _ (lexG_held hs hQ rest G' _ a' w' h2 hG' hl)⟩
def G2 (w0 w : World) : World -> Prop := fun W => Grow w0 W /\ Grow w W
def nthO : List Oper -> Nat -> Option Oper
 | [], _ => none
 | o :: _, 0 => some o
 | _ :: l, n + 1 => nthO l n
theorem nthO_eq : ∀ (l : List Oper) (i : Nat), l.toArray[i]? = nthO l i
 | [], i => by simp [nthO]
 | o :: l, 0 => by simp [nthO]
 | o :: l, i + 1 => by
  have := nthO_eq l i; simpa [nthO] using this
theorem lex_nil {G : World -> Prop} {a : Act} {w : World} (h : Q .normal a w) : LexG P ops Q [] G a w := h
end
end Go.Proofs.YteeeeddeacepmaaGreatDoor.B
namespace Go.Proofs.YteeeeddeacepmaaGreatDoor
set_option maxRecDepth 100000
open Go.RowKit B
section
variable {P : Program} {ops : Array Oper} {Q : Exit -> Act -> World -> Prop}
theorem wp_region_lexG {id : Nat} {a : Act} {w : World} {l : List Oper} (G : World -> Prop) (h0 : G w.drew) (ord : List Nat) (hm : P.follows .mixedOrders = true) (hs : Region.noSelect l.toArray = true) (hl : ord.length = l.toArray.size)
  (hok : lexOk l.toArray ord (Array.replicate l.toArray.size false) = true)
  (hQ : ∀ (c : List PanicEntry) (a : Act) (d : Option Tmp) (v : Value) (w : World), Q (.panic c) (a.put d v) w -> Q (.panic c) a w)
  (h : LexG P l.toArray Q ord G a w.drew) : (Code.region id l.toArray true).wp P Q a w := by
 have hh := lexG_held hs hQ ord _ _ a w.drew hok h0 h; rw [hl] at hh; exact wp_region_held hm hh
theorem lexg_take {G : World -> Prop} {a : Act} {w : World} {l : List Oper} {i : Nat} {rest : List Nat} {o : Oper} {v : Value} (ho : nthO l i = some o) (hw : Region.wanted o (yielded l.toArray a.tmps) = true)
  (hy : ∀ W, G W -> (execOp a.eval o).run P W = .ok (.value v) W) (h : LexG P l.toArray Q rest G (a.put o.dst v) w) :
  LexG P l.toArray Q (i :: rest) G a w := ⟨o, (nthO_eq l i).trans ho, .inl ⟨v, .inl ⟨hw, hy⟩, h⟩⟩
theorem lexg_turn {G : World -> Prop} {a : Act} {w : World} {l : List Oper} {i : Nat} {rest : List Nat} {o : Oper} (ho : nthO l i = some o) (ht : turns o = true) (hw : Region.wanted o (yielded l.toArray a.tmps) = true)
  (h : ∀ K' : Act -> World -> Prop, Shut (∀ a' w', G w' -> LexG P l.toArray Q rest G a' w' -> K' a' w') -> Oper.wp P o a w K' Q) :
  LexG P l.toArray Q (i :: rest) G a w :=
 ⟨o, (nthO_eq l i).trans ho, .inr ⟨ht, wpOp_step ((nthO_eq l i).trans ho) fun K' hK => by
  rw [if_pos hw]
  exact h K' fun a' w' h0 hl => hK a' w' ⟨G, fun _ hW => hW, h0, hl⟩⟩⟩
variable {w : World} {t e : TypeId} {z : Value} {size bytes : Nat}
theorem oper_app {o : Oper} {a : Act} {K : Act -> World -> Prop} (s x : Operand)
  (ho : o.op = .call { callee := .builtin .append, args := #[s, x], argTypes := #[t, t] })
  (E : Elem P t e z size bytes) {base : Nat} {v : Value} {n : Nat} {xs : List Value} (hown : w.ownsRow base e size v n xs) (hs : a.eval s = v)
  {S : Nat -> Prop} {src : Value} {m : Nat} {news : List Value} (hr : Rd w S size src m news) (hx : a.eval x = src) (h1 : ∀ u ∈ news, u.oneCell' = true)
  (hn : (n + m) * bytes <= 140737488355328) (hbase : base <= w.heap.size)
  (h : ∀ v' w', w'.ownsRow base e size v' (n + m) (xs ++ news) -> w.grownBy w' v.ownBlock -> (v'.ownBlock = v.ownBlock ∨ v'.ownBlock = some w.heap.size) -> K (a.put o.dst v') w') :
  Oper.wp P o a w K Q := by
 obtain ⟨v', w', hrun, h2, h3, h4⟩ := run_app E o.type hown hr h1 hn hbase; unfold Oper.wp execOp; simp only [ho, resolve, invoke, builtin, Sem.run_bind, Sem.run_pure, Result.andThen_ok, List.map_toArray, List.map_cons, List.map_nil, hs, hx, hrun]; exact h v' w' h2 h3 h4
end
def Boxed (w0 : World) (bb : Nat) (cs : Array Value) (W : World) : Prop := Grow w0 W /\ bb < W.heap.size /\ ∀ j, W.cell? ⟨bb, j, none⟩ = cs[j]?
theorem Boxed.tr {w0 W W' : World} {bb : Nat} {cs : Array Value} (h : Boxed w0 bb cs W) (hg : Grow W W') : Boxed w0 bb cs W' :=
 ⟨h.1.tr hg, Nat.lt_of_lt_of_le h.2.1 hg.size, fun j => (hg.cell (p := ⟨bb, j, none⟩) h.2.1).trans (h.2.2 j)⟩
theorem Boxed.by_ {w0 W W' : World} {bb : Nat} {cs : Array Value} {row : Option Nat} (h : Boxed w0 bb cs W) (hg : W.grownBy W' row) (hw : ∀ k, row = some k -> w0.heap.size <= k) (hne : some bb ≠ row) : Boxed w0 bb cs W' :=
 ⟨grow_app h.1 hg hw, Nat.lt_of_lt_of_le h.2.1 hg.size, fun j => (World.cell?_of_block (w := W) (a := ⟨bb, j, none⟩) (hg.block bb h.2.1 hne)).trans (h.2.2 j)⟩
theorem Boxed.laid {w0 w W : World} {cs : Array Value} {t : TypeId} (h : Grow w0 w) (hg : Grow (w.alloc (.cells cs t)) W) : Boxed w0 w.heap.size cs W :=
 ⟨(h.al _).tr hg, Nat.lt_of_lt_of_le (by rw [World.size_alloc]; omega) hg.size, fun j => box_at hg j⟩
end Go.Proofs.YteeeeddeacepmaaGreatDoor
namespace Go.Proofs.YteeeeddeacepmaaGreatDoor.B
set_option maxRecDepth 100000
open Go.RowKit
section
variable {P : Program} {ops : Array Oper} {Q : Exit -> Act -> World -> Prop}
def wpHL (P : Program) (ops : Array Oper) (Q : Exit -> Act -> World -> Prop) (n : Nat) (L : Array Bool -> Act -> World -> Prop) (S : World -> Prop) : Nat -> Array Bool -> Act -> World -> Prop
 | 0, listed, a, w => L listed a w
 | f + 1, listed, a, w =>
  Region.ready .any ops listed ≠ [] /\ ∀ i ∈ Region.ready .any ops listed, i < n /\ wpOp P ops Q i (fun a' w' => S w' /\ wpHL P ops Q n L S f (listed.setIfInBounds i true) a' w') a w
theorem wpHL_mono {n : Nat} {L : Array Bool -> Act -> World -> Prop} {S S' : World -> Prop} (h : ∀ w, S' w -> S w) : ∀ (f : Nat) (listed : Array Bool) (a : Act) (w : World), wpHL P ops Q n L S' f listed a w -> wpHL P ops Q n L S f listed a w
 | 0, _, _, _, hh => hh
 | f + 1, _, _, _, hh => ⟨hh.1, fun i hi => ⟨(hh.2 i hi).1, wpOp_mono (fun a' w' h' => ⟨h _ h'.1, wpHL_mono h f _ a' w' h'.2⟩) (hh.2 i hi).2⟩⟩
theorem wpAny_of_HL {n g : Nat} {L : Array Bool -> Act -> World -> Prop} {S : World -> Prop} (hL : ∀ listed a w, L listed a w -> wpAny P .any ops Q g listed a w) :
  ∀ (f : Nat) (listed : Array Bool) (a : Act) (w : World), wpHL P ops Q n L S f listed a w -> wpAny P .any ops Q (f + g) listed a w
 | 0, listed, a, w, h => by rw [Nat.zero_add]; exact hL _ _ _ h
 | f + 1, listed, a, w, h => by
  rw [show f + 1 + g = (f + g) + 1 by omega]; exact ⟨fun h0 => absurd h0 h.1, fun i hi => wpOp_mono (fun a' w' h' => wpAny_of_HL hL f _ a' w' h'.2) (h.2 i hi).2⟩
theorem wpHL_first {n i : Nat} {oi : Oper} {v : Value} {L : Array Bool -> Act -> World -> Prop} {S : World -> Prop} (hi : ops[i]? = some oi) (hsel : ∀ (j : Nat) (o : Oper) cs b, ops[j]? = some o -> o.op ≠ .select cs b)
  (hs : Region.sinkB .any ops n = true) (hc : Region.chainB .any ops n = true) (hn : n < ops.size) (hin : i < n)
  (hdone : ∀ listed a w, L listed a w -> ∀ j ∈ Region.ready .any ops listed, n <= j)
  (hQ : ∀ c a w, Q (.panic c) (a.put oi.dst v) w -> Q (.panic c) a w) :
  ∀ (f : Nat) (listed : Array Bool) (a : Act) (w : World), HeadInv .any ops n listed ->
   (∀ j oj, ops[j]? = some oj -> j ≠ i -> listed.getD j true = false -> (∀ e ∈ oj.after, Region.binds .any e = true -> e.on ≠ i) -> oi.apart ops oj = true) ->
   i ∈ Region.ready .any ops listed -> YieldsIf P ops S oi v a -> S w ->
   wpHL P ops Q n L S f (listed.setIfInBounds i true) (a.put oi.dst v) w -> wpHL P ops Q n L S (f + 1) listed a w := by
 intro f
 induction f with
 | zero =>
  intro listed a w inv _ hr hy hS H; have hun := (mem_ready.1 hr).1; refine ⟨fun h => (by rw [h] at hr; cases hr), fun j hj => ?_⟩
  have hjn : j < n := by
   rcases Nat.lt_or_ge j n with h | h
   ·exact h
   ·exact absurd hj (tail_waits hs hc hn inv _ i rfl hin hun j h)
  refine ⟨hjn, ?_⟩
  by_cases hji : j = i
  ·subst hji; exact hy.wpOp hi hS ⟨hS, H⟩
  ·have := hdone _ _ _ H j (ready_mono hj hji)
   omega
 | succ f ih =>
  intro listed a w inv hfree hr hy hS H; have hun := (mem_ready.1 hr).1; refine ⟨fun h => (by rw [h] at hr; cases hr), fun j hj => ?_⟩
  have hjn : j < n := by
   rcases Nat.lt_or_ge j n with h | h
   ·exact h
   ·exact absurd hj (tail_waits hs hc hn inv _ i rfl hin hun j h)
  refine ⟨hjn, ?_⟩
  by_cases hji : j = i
  ·subst hji; exact hy.wpOp hi hS ⟨hS, H⟩
  ·have h1 := (H.2 j (ready_mono hj hji)).2
   obtain ⟨hjun, oj, hoj, hall⟩ := mem_ready.1 hj
   have hnot : ∀ e ∈ oj.after, Region.binds .any e = true -> e.on ≠ i := fun e he hb heq => by
    have h1 := hall e he hb; rw [heq, getD_both hun] at h1
    cases h1
   have h2 := wpOp_putIf hoj (hfree j oj hoj hji hjun hnot) (fun cs b => hsel i oi cs b hi) (fun cs b => hsel j oj cs b hoj) hQ hy h1
   have hfree' : ∀ k ok, ops[k]? = some ok -> k ≠ i -> (listed.setIfInBounds j true).getD k true = false ->
     (∀ e ∈ ok.after, Region.binds .any e = true -> e.on ≠ i) -> oi.apart ops ok = true := fun k ok hk hki hun hno => by
    refine hfree k ok hk hki ?_ hno
    by_cases hjk : j = k
    ·subst hjk; exact hjun
    ·rw [getD_set_ne true hjk] at hun; exact hun
   refine wpOp_mono (fun a' w' h3 => ⟨h3.2.1, ih (listed.setIfInBounds j true) a' w' (inv.set hj hjn) hfree' (ready_mono hr (Ne.symm hji)) h3.1 h3.2.1 ?_⟩) h2; rw [Array.setIfInBounds_comm _ _ hji]; exact h3.2.2
def LexT (P : Program) (ops : Array Oper) (Q : Exit -> Act -> World -> Prop) (L : Act -> World -> Prop) : List Nat -> (World -> Prop) -> Act -> World -> Prop
 | [], _, a, w => L a w
 | i :: rest, G, a, w => ∃ o, ops[i]? = some o /\
   ((∃ v, YieldsIf P ops G o v a /\ LexT P ops Q L rest G (a.put o.dst v) w) ∨
    (turns o = true /\ wpOp P ops Q i (fun a' w' => ∃ G' : World -> Prop, (∀ W, G' W -> G W) /\ G' w' /\ LexT P ops Q L rest G' a' w') a w))
def lexOkT (ops : Array Oper) (n g : Nat) : List Nat -> Array Bool -> Bool
 | [], listed => Region.seqB .any ops g n listed
 | i :: rest, listed =>
  decide (i < n) &&
  (match ops[i]? with
   | none => false
   | some o => if turns o then Region.ready .any ops listed == [i] else Region.free .any ops listed i && (Region.ready .any ops listed).contains i) &&
  lexOkT ops n g rest (listed.setIfInBounds i true)
theorem lexT_held {n g : Nat} {Lq : Act -> World -> Prop} (hsel : Region.noSelect ops = true) (hs : Region.sinkB .any ops n = true) (hc : Region.chainB .any ops n = true) (hn : n < ops.size)
  (hQ : ∀ (c : List PanicEntry) (a : Act) (d : Option Tmp) (v : Value) (w : World), Q (.panic c) (a.put d v) w -> Q (.panic c) a w) :
  ∀ (ord : List Nat) (G : World -> Prop) (listed : Array Bool) (a : Act) (w : World), lexOkT ops n g ord listed = true -> HeadInv .any ops n listed -> G w -> LexT P ops Q Lq ord G a w ->
   wpHL P ops Q n (fun listed' a' w' => Region.seqB .any ops g n listed' = true /\ Lq a' w') G ord.length listed a w
 | [], G, listed, a, w, hok, _, _, h => ⟨hok, h⟩
 | i :: rest, G, listed, a, w, hok, inv, hG, h => by
  obtain ⟨o, ho, hcs⟩ := h; simp only [lexOkT, ho, Bool.and_eq_true, decide_eq_true_eq] at hok; obtain ⟨⟨hin, h1⟩, h2⟩ := hok
  rcases hcs with ⟨v, hy, hk⟩ | ⟨ht, hw⟩
  ·split at h1
   ·have hr : Region.ready .any ops listed = [i] := by simpa using h1
    have hir : i ∈ Region.ready .any ops listed := by rw [hr]; simp
    have ih := lexT_held (Lq := Lq) hsel hs hc hn hQ rest G _ _ w h2 (inv.set hir hin) hG hk; refine ⟨by rw [hr]; simp, fun j hj => ?_⟩; rw [hr] at hj; obtain rfl : j = i := by simpa using hj
    exact ⟨hin, hy.wpOp ho hG ⟨hG, ih⟩⟩
   ·simp only [Bool.and_eq_true] at h1
    have hir : i ∈ Region.ready .any ops listed := by simpa using h1.2
    have ih := lexT_held (Lq := Lq) hsel hs hc hn hQ rest G _ _ w h2 (inv.set hir hin) hG hk; exact wpHL_first ho (Region.noSelect_spec hsel) hs hc hn hin (fun listed' a' w' hL => seqB_ready hL.1) (fun c a w => hQ c a o.dst v w) _ _ a w inv (Region.free_spec ho h1.1) hir hy hG ih
  ·rw [if_pos ht] at h1
   have hr : Region.ready .any ops listed = [i] := by simpa using h1
   have hir : i ∈ Region.ready .any ops listed := by rw [hr]; simp
   refine ⟨by rw [hr]; simp, fun j hj => ?_⟩; rw [hr] at hj; obtain rfl : j = i := by simpa using hj
   refine ⟨hin, wpOp_mono (fun a' w' h' => ?_) hw⟩; obtain ⟨G', hGG, hG', hl⟩ := h'; exact ⟨hGG _ hG', wpHL_mono hGG _ _ _ _ (lexT_held hsel hs hc hn hQ rest G' _ a' w' h2 (inv.set hir hin) hG' hl)⟩
def lexTB (ops : Array Oper) (n : Nat) (ord : List Nat) : Bool :=
 Region.noSelect ops && decide (n < ops.size) && Region.sinkB .any ops n && Region.chainB .any ops n && decide (ord.length = n) && lexOkT ops n (ops.size - n) ord (Array.replicate ops.size false)
theorem wp_region_lexT {id : Nat} {a : Act} {w : World} {l : List Oper} (G : World -> Prop) (h0 : G w.drew) (n : Nat) (ord : List Nat) (hm : P.follows .mixedOrders = true) (hB : lexTB l.toArray n ord = true)
  (hQ : ∀ (c : List PanicEntry) (a : Act) (d : Option Tmp) (v : Value) (w : World), Q (.panic c) (a.put d v) w -> Q (.panic c) a w)
  (h : LexT P l.toArray Q (fun a' w' => wpList P l.toArray Q (l.drop n) a' w') ord G a w.drew) : (Code.region id l.toArray true).wp P Q a w := by
 simp only [lexTB, Bool.and_eq_true, decide_eq_true_eq] at hB; obtain ⟨⟨⟨⟨⟨hsel, hn⟩, hs⟩, hc⟩, hol⟩, hlex⟩ := hB
 have inv0 : HeadInv .any l.toArray n (Array.replicate l.toArray.size false) :=
  ⟨by simp, fun j oj _ hl => (by rw [getD_replicate_false] at hl; cases hl), fun t _ ht => getD_in (by simpa using ht) (getD_replicate_false _ _)⟩
 have H := lexT_held hsel hs hc hn hQ ord G _ a w.drew hlex inv0 h0 h; refine wp_region_any hm ?_; have hdl : (l.drop n).length = l.toArray.size - n := by simp
 have := wpAny_of_HL (P := P) (Q := Q) (g := l.toArray.size - n) (fun listed a' w' hL => by
  have := wpAny_of_seq (P := P) (md := .any) (Q' := Q) (l.drop n) n listed a' w' (fun j => by simp [List.getElem?_drop]) (by rw [hdl]; exact hL.1) hL.2
  rwa [hdl] at this) _ _ _ _ H
 rw [hol, show n + (l.toArray.size - n) = l.toArray.size by omega] at this; exact this
variable {L : Act -> World -> Prop}
theorem lext_nil {G : World -> Prop} {a : Act} {w : World} (h : L a w) : LexT P ops Q L [] G a w := h
theorem lext_take {G : World -> Prop} {a : Act} {w : World} {l : List Oper} {i : Nat} {rest : List Nat} {o : Oper} {v : Value} (ho : nthO l i = some o) (hw : Region.wanted o (yielded l.toArray a.tmps) = true)
  (hy : ∀ W, G W -> (execOp a.eval o).run P W = .ok (.value v) W) (h : LexT P l.toArray Q L rest G (a.put o.dst v) w) :
  LexT P l.toArray Q L (i :: rest) G a w := ⟨o, (nthO_eq l i).trans ho, .inl ⟨v, .inl ⟨hw, hy⟩, h⟩⟩
theorem lext_turn {G : World -> Prop} {a : Act} {w : World} {l : List Oper} {i : Nat} {rest : List Nat} {o : Oper} (ho : nthO l i = some o) (ht : turns o = true) (hw : Region.wanted o (yielded l.toArray a.tmps) = true)
  (h : ∀ K' : Act -> World -> Prop, Shut (∀ a' w', G w' -> LexT P l.toArray Q L rest G a' w' -> K' a' w') -> Oper.wp P o a w K' Q) :
  LexT P l.toArray Q L (i :: rest) G a w :=
 ⟨o, (nthO_eq l i).trans ho, .inr ⟨ht, wpOp_step ((nthO_eq l i).trans ho) fun K' hK => by
  rw [if_pos hw]
  exact h K' fun a' w' h0 hl => hK a' w' ⟨G, fun _ hW => hW, h0, hl⟩⟩⟩
end
section
variable {P : Program} {w : World} {t e : TypeId} {z : Value} {size bytes : Nat}
theorem oper_new3 {o : Oper} {a : Act} {Q : Exit -> Act -> World -> Prop} {K : Act -> World -> Prop} (s x : Operand)
  (ho : o.op = .call { callee := .builtin .append, args := #[s, x], argTypes := #[t, t] })
  (E : Elem P t e z size bytes) {base : Nat} {v : Value} {n : Nat} {xs : List Value} (hown : w.ownsRow base e size v n xs) (hs : a.eval s = v)
  (m g : Nat) (hgz : w.heap.size = g) (cs : Array Value) (hx : a.eval x = .slice (some ⟨g, 0, none⟩) m m) (hm : m <= 16) (hcs : cs.size = m * size) (h1 : ∀ u ∈ cs.toList, u.oneCell' = true)
  (hn : (n + m) * bytes <= 140737488355328) (hbase : base <= w.heap.size)
  (h : ∀ v' w', w'.ownsRow base e size v' (n + m) (xs ++ cs.toList) -> w.grownBy w' v.ownBlock -> (v'.ownBlock = v.ownBlock ∨ v'.ownBlock = some (w.heap.size + 1)) -> K (a.put o.dst v') w') :
  Oper.wp P o a (w.alloc (.cells cs e)) K Q := by
 subst hgz; exact oper_app s x ho E (hown.alloc _) hs (Rd.lit w cs e m (by simp only [maxLen]; omega) hcs) hx h1 hn (by rw [World.size_alloc]; omega) fun v' w' k1 k2 k3 => h v' w' k1 (grow_of_alloc k2) (by rw [World.size_alloc] at k3; exact k3)
end
end Go.Proofs.YteeeeddeacepmaaGreatDoor.B
namespace Go.Proofs.YteeeeddeacepmaaGreatDoor.B
set_option maxRecDepth 100000
open Go.RowKit
structure FA where
 i : Nat
 d : Option Tmp
 t : TypeId
 cs : Array Value
def ptrTo (b : Nat) : Value := .pointer (some ⟨b, 0, none⟩)
theorem put_comm (a : Act) {d e : Option Tmp} (h : d ≠ e) (u v : Value) : (a.put d u).put e v = (a.put e v).put d u := by
 cases d with
 | none => rfl
 | some d =>
  cases e with
  | none => rfl
  | some e =>
   have hde : d ≠ e := fun he => h (by rw [he])
   simp only [Act.put]; rw [Array.setIfInBounds_comm _ _ hde]
theorem put_put (a : Act) (d : Option Tmp) (u v : Value) : (a.put d u).put d v = a.put d v := by
 cases d with
 | none => rfl
 | some d => simp [Act.put]
section
variable {P : Program} {ops : Array Oper} {Q : Exit -> Act -> World -> Prop}
def FA.put2 (f1 f2 : FA) (x1 x2 : Value) (a : Act) : Act := (a.put f1.d x1).put f2.d x2
def BoxAt (f : FA) (base : Nat) (W : World) (I : List (Nat × Nat)) (b : Nat) : Prop := W.heap[b]? = some (.cells f.cs f.t (0, 0)) /\ base <= b /\ ∀ p ∈ I, b < p.1 ∨ p.2 <= b
def FrT (P : Program) (ops : Array Oper) (Q : Exit -> Act -> World -> Prop) (L : Act -> World -> Prop) (f1 f2 : FA) (base : Nat) : List Nat -> World -> List (Nat × Nat) -> Act -> Prop
 | [], w, I, a => ∀ b1 b2 W, Grow w W -> b1 ≠ b2 -> BoxAt f1 base W I b1 -> BoxAt f2 base W I b2 -> L (f1.put2 f2 (ptrTo b1) (ptrTo b2) a) W
 | c :: cs, w, I, a => ∃ o, ops[c]? = some o /\ o.dst ≠ f1.d /\ o.dst ≠ f2.d /\
   ((∃ v, (∀ x1 x2, YieldsIf P ops (Grow w) o v (f1.put2 f2 x1 x2 a)) /\ FrT P ops Q L f1 f2 base cs w I (a.put o.dst v)) ∨
    (turns o = true /\ ∀ x1 x2 W, Grow w W -> wpOp P ops Q c (fun a' W' => ∃ v, a' = (f1.put2 f2 x1 x2 a).put o.dst v /\ Grow W W' /\ FrT P ops Q L f1 f2 base cs W' ((W.heap.size, W'.heap.size) :: I) (a.put o.dst v)) (f1.put2 f2 x1 x2 a) W))
def pendOf (f1 f2 : FA) : Option Nat -> Option Nat -> List Nat
 | none, none => [f1.i, f2.i]
 | none, some _ => [f1.i]
 | some _, none => [f2.i]
 | some _, some _ => []
def okFT (ops : Array Oper) (n g : Nat) : Nat -> List Nat -> List Nat -> Array Bool -> Bool
 | 0, chain, p, listed => chain.isEmpty && p.isEmpty && Region.seqB .any ops g n listed
 | k + 1, [], p, listed => !(Region.ready .any ops listed).isEmpty && (Region.ready .any ops listed).all (fun i => p.contains i) && p.all (fun i => decide (i < n) && okFT ops n g k [] (p.erase i) (listed.setIfInBounds i true))
 | k + 1, c :: cs, p, listed => decide (c < n) &&
  (match ops[c]? with
   | none => false
   | some o => if turns o then !(Region.ready .any ops listed).isEmpty && (Region.ready .any ops listed).all (fun i => i == c || p.contains i) && okFT ops n g k cs p (listed.setIfInBounds c true) && p.all (fun i => decide (i < n) && okFT ops n g k (c :: cs) (p.erase i) (listed.setIfInBounds i true))
    else Region.free .any ops listed c && (Region.ready .any ops listed).contains c && okFT ops n g k cs p (listed.setIfInBounds c true))
def Laid (f : FA) (base : Nat) (W : World) (I : List (Nat × Nat)) (x : Value) : Option Nat -> Prop
 | none => True
 | some b => x = ptrTo b /\ BoxAt f base W I b
theorem Laid.grow {f : FA} {base : Nat} {W W' : World} {I : List (Nat × Nat)} {x : Value} {s : Option Nat} (h : Laid f base W I x s) (hg : Grow W W') : Laid f base W' I x s := by
 cases s with
 | none => trivial
 | some b => exact ⟨h.1, (hg.block b (lt_of_block h.2.1)).trans h.2.1, h.2.2.1, h.2.2.2⟩
theorem Laid.call {f : FA} {base : Nat} {W W' : World} {I : List (Nat × Nat)} {x : Value} {s : Option Nat} (h : Laid f base W I x s) (hg : Grow W W') : Laid f base W' ((W.heap.size, W'.heap.size) :: I) x s := by
 cases s with
 | none => trivial
 | some b =>
  refine ⟨h.1, (hg.block b (lt_of_block h.2.1)).trans h.2.1, h.2.2.1, fun p hp => ?_⟩; rcases List.mem_cons.1 hp with rfl | hp
  ·exact .inl (lt_of_block h.2.1)
  ·exact h.2.2.2 p hp
structure IsAlloc (P : Program) (ops : Array Oper) (Q : Exit -> Act -> World -> Prop) (f : FA) : Prop where
 op : ∃ o, ops[f.i]? = some o /\ o.dst = f.d /\ o.guard = none /\ ∀ (a : Act) (W : World) (K : Act -> World -> Prop), K (a.put o.dst (ptrTo W.heap.size)) (W.alloc (.cells f.cs f.t)) -> Oper.wp P o a W K Q
theorem IsAlloc.step {f : FA} (h : IsAlloc P ops Q f) (a : Act) (W : World) {K : Act -> World -> Prop} (hK : K (a.put f.d (ptrTo W.heap.size)) (W.alloc (.cells f.cs f.t))) : wpOp P ops Q f.i K a W := by
 obtain ⟨o, h1, h2, h3, h4⟩ := h.op; refine wpOp_step h1 fun K' hK' => ?_
 rw [if_pos (by simp [Region.wanted, h3])]; exact h4 a W K' (hK' _ _ (by rw [h2]; exact hK))
theorem frT_held {n g : Nat} {L : Act -> World -> Prop} {f1 f2 : FA} {base : Nat} (hsel : Region.noSelect ops = true) (hs : Region.sinkB .any ops n = true) (hc : Region.chainB .any ops n = true) (hn : n < ops.size)
  (hQ : ∀ (c : List PanicEntry) (a : Act) (d : Option Tmp) (v : Value) (w : World), Q (.panic c) (a.put d v) w -> Q (.panic c) a w)
  (hd : f1.d ≠ f2.d) (hi : f1.i ≠ f2.i) (hA1 : IsAlloc P ops Q f1) (hA2 : IsAlloc P ops Q f2) :
  ∀ (k : Nat) (chain : List Nat) (s1 s2 : Option Nat) (listed : Array Bool) (w : World) (I : List (Nat × Nat)) (a : Act) (x1 x2 : Value) (W : World),
   okFT ops n g k chain (pendOf f1 f2 s1 s2) listed = true -> HeadInv .any ops n listed -> base <= w.heap.size -> (∀ p ∈ I, p.2 <= w.heap.size) -> Grow w W ->
   Laid f1 base W I x1 s1 -> Laid f2 base W I x2 s2 -> (∀ b1 b2, s1 = some b1 -> s2 = some b2 -> b1 ≠ b2) -> FrT P ops Q L f1 f2 base chain w I a ->
   wpHL P ops Q n (fun listed' a' w' => Region.seqB .any ops g n listed' = true /\ L a' w') (Grow w) k listed (f1.put2 f2 x1 x2 a) W := by
 intro k
 induction k with
 | zero =>
  intro chain s1 s2 listed w I a x1 x2 W hok inv hb hI hg h1 h2 hne h; simp only [okFT, Bool.and_eq_true, List.isEmpty_iff] at hok; obtain ⟨⟨hch, hp⟩, hseq⟩ := hok; subst hch
  cases s1 with
  | none => cases s2 <;> simp [pendOf] at hp
  | some b1 =>
   cases s2 with
   | none => simp [pendOf] at hp
   | some b2 =>
    obtain ⟨rfl, h1⟩ := h1; obtain ⟨rfl, h2⟩ := h2; exact ⟨hseq, h b1 b2 W hg (hne _ _ rfl rfl) h1 h2⟩
 | succ k ih =>
  intro chain s1 s2 listed w I a x1 x2 W hok inv hb hI hg h1 h2 hne h
  have lay : ∀ i ∈ Region.ready .any ops listed, i < n -> i ∈ pendOf f1 f2 s1 s2 -> okFT ops n g k chain ((pendOf f1 f2 s1 s2).erase i) (listed.setIfInBounds i true) = true ->
    wpOp P ops Q i (fun a' w' => Grow w w' /\ wpHL P ops Q n (fun listed' a' w' => Region.seqB .any ops g n listed' = true /\ L a' w') (Grow w) k (listed.setIfInBounds i true) a' w') (f1.put2 f2 x1 x2 a) W := by
   intro i hir hin hip hok'; have hbW : base <= W.heap.size := Nat.le_trans hb hg.size; have hIW : ∀ p ∈ I, W.heap.size < p.1 ∨ p.2 <= W.heap.size := fun p hp => .inr (Nat.le_trans (hI p hp) hg.size)
   have hgA : Grow W (W.alloc (.cells f1.cs f1.t)) := (Grow.refl W).al _; have hgB : Grow W (W.alloc (.cells f2.cs f2.t)) := (Grow.refl W).al _
   have new1 : s1 = none -> i = f1.i -> okFT ops n g k chain (pendOf f1 f2 (some W.heap.size) s2) (listed.setIfInBounds i true) = true -> wpOp P ops Q i (fun a' w' => Grow w w' /\ wpHL P ops Q n (fun listed' a' w' => Region.seqB .any ops g n listed' = true /\ L a' w') (Grow w) k (listed.setIfInBounds i true) a' w') (f1.put2 f2 x1 x2 a) W := by
    rintro rfl rfl hok2; refine hA1.step _ W ⟨hg.al _, ?_⟩
    have e : (f1.put2 f2 x1 x2 a).put f1.d (ptrTo W.heap.size) = f1.put2 f2 (ptrTo W.heap.size) x2 a := by
     unfold FA.put2; rw [put_comm _ hd.symm, put_put]
    rw [e]
    exact ih chain (some W.heap.size) s2 _ w I a _ _ _ hok2 (inv.set hir hin) hb hI (hg.al _) ⟨rfl, heap_alloc_new W _, hbW, hIW⟩ (h2.grow hgA)
     (fun b1 b2 e1 e2 => by
      injection e1 with e1
      subst e1 e2; have := lt_of_block h2.2.1
      omega) h
   have new2 : s2 = none -> i = f2.i -> okFT ops n g k chain (pendOf f1 f2 s1 (some W.heap.size)) (listed.setIfInBounds i true) = true -> wpOp P ops Q i (fun a' w' => Grow w w' /\ wpHL P ops Q n (fun listed' a' w' => Region.seqB .any ops g n listed' = true /\ L a' w') (Grow w) k (listed.setIfInBounds i true) a' w') (f1.put2 f2 x1 x2 a) W := by
    rintro rfl rfl hok2; refine hA2.step _ W ⟨hg.al _, ?_⟩
    have e : (f1.put2 f2 x1 x2 a).put f2.d (ptrTo W.heap.size) = f1.put2 f2 x1 (ptrTo W.heap.size) a := by
     unfold FA.put2; rw [put_put]
    rw [e]
    exact ih chain s1 (some W.heap.size) _ w I a _ _ _ hok2 (inv.set hir hin) hb hI (hg.al _) (h1.grow hgB) ⟨rfl, heap_alloc_new W _, hbW, hIW⟩
     (fun b1 b2 e1 e2 => by
      injection e2 with e2
      subst e1 e2; have := lt_of_block h1.2.1
      omega) h
   cases s1 with
   | none =>
    cases s2 with
    | none =>
     simp only [pendOf, List.mem_cons, List.not_mem_nil, or_false] at hip; rcases hip with rfl | rfl
     ·exact new1 rfl rfl (by simpa [pendOf] using hok')
     ·exact new2 rfl rfl (by simpa [pendOf, List.erase_cons, hi] using hok')
    | some b2 =>
     simp only [pendOf, List.mem_cons, List.not_mem_nil, or_false] at hip; subst hip; exact new1 rfl rfl (by simpa [pendOf] using hok')
   | some b1 =>
    cases s2 with
    | none =>
     simp only [pendOf, List.mem_cons, List.not_mem_nil, or_false] at hip; subst hip; exact new2 rfl rfl (by simpa [pendOf] using hok')
    | some b2 => simp [pendOf] at hip
  cases chain with
  | nil =>
   simp only [okFT, Bool.and_eq_true, List.all_eq_true, decide_eq_true_eq] at hok; obtain ⟨⟨hr, hall⟩, hp⟩ := hok; refine ⟨fun e => by rw [e] at hr; simp at hr, fun i hir => ?_⟩; have hip : i ∈ pendOf f1 f2 s1 s2 := by simpa using hall i hir
   exact ⟨(hp i hip).1, lay i hir (hp i hip).1 hip (hp i hip).2⟩
  | cons c cs =>
   obtain ⟨o, ho, hd1, hd2, hcs⟩ := h; simp only [okFT, ho, Bool.and_eq_true, decide_eq_true_eq] at hok; obtain ⟨hcn, hok⟩ := hok
   have puto : ∀ v, (f1.put2 f2 x1 x2 a).put o.dst v = f1.put2 f2 x1 x2 (a.put o.dst v) := fun v => by
    unfold FA.put2; rw [put_comm _ hd2.symm, put_comm _ hd1.symm]
   rcases hcs with ⟨v, hy, hk⟩ | ⟨ht, hw⟩
   ·by_cases ht : turns o = true
    ·rw [if_pos ht] at hok
     simp only [Bool.and_eq_true, List.all_eq_true, decide_eq_true_eq] at hok; obtain ⟨⟨⟨hr, hall⟩, hok1⟩, hp⟩ := hok; refine ⟨fun e => by rw [e] at hr; simp at hr, fun i hir => ?_⟩; have hi2 := hall i hir; simp only [Bool.or_eq_true, beq_iff_eq] at hi2; rcases hi2 with rfl | hip
     ·refine ⟨hcn, (hy x1 x2).wpOp ho hg ⟨hg, ?_⟩⟩
      rw [puto]; exact ih cs s1 s2 _ w I _ _ _ _ hok1 (inv.set hir hcn) hb hI hg h1 h2 hne hk
     ·have hip : i ∈ pendOf f1 f2 s1 s2 := by simpa using hip
      exact ⟨(hp i hip).1, lay i hir (hp i hip).1 hip (hp i hip).2⟩
    ·rw [if_neg ht] at hok
     simp only [Bool.and_eq_true] at hok; obtain ⟨⟨hfr, hct⟩, hok1⟩ := hok; have hir : c ∈ Region.ready .any ops listed := by simpa using hct
     have hk2 := ih cs s1 s2 _ w I _ x1 x2 W hok1 (inv.set hir hcn) hb hI hg h1 h2 hne hk; rw [<- puto] at hk2; exact wpHL_first ho (Region.noSelect_spec hsel) hs hc hn hcn (fun listed' a' w' hL => seqB_ready hL.1) (fun c a w => hQ c a o.dst v w) _ _ _ W inv (Region.free_spec ho hfr) hir (hy x1 x2) hg hk2
   ·rw [if_pos ht] at hok
    simp only [Bool.and_eq_true, List.all_eq_true, decide_eq_true_eq] at hok; obtain ⟨⟨⟨hr, hall⟩, hok1⟩, hp⟩ := hok; refine ⟨fun e => by rw [e] at hr; simp at hr, fun i hir => ?_⟩; have hi2 := hall i hir; simp only [Bool.or_eq_true, beq_iff_eq] at hi2; rcases hi2 with rfl | hip
    ·refine ⟨hcn, wpOp_mono (fun a' W' h' => ?_) (hw x1 x2 W hg)⟩
     obtain ⟨v, rfl, hgW, hk⟩ := h'; refine ⟨hg.tr hgW, ?_⟩; rw [puto]; refine wpHL_mono (fun X hX => (hg.tr hgW).tr hX) _ _ _ _ (ih cs s1 s2 _ W' _ _ x1 x2 W' hok1 (inv.set hir hcn) (Nat.le_trans hb (hg.tr hgW).size) (fun p hp => ?_) (Grow.refl _) (h1.call hgW) (h2.call hgW) hne hk); rcases List.mem_cons.1 hp with rfl | hp
     ·exact Nat.le_refl _
     ·exact Nat.le_trans (hI p hp) (hg.tr hgW).size
    ·have hip : i ∈ pendOf f1 f2 s1 s2 := by simpa using hip
     exact ⟨(hp i hip).1, lay i hir (hp i hip).1 hip (hp i hip).2⟩
def freeB (ops : Array Oper) (n : Nat) (chain : List Nat) (i1 i2 : Nat) : Bool :=
 Region.noSelect ops && decide (n < ops.size) && Region.sinkB .any ops n && Region.chainB .any ops n && decide (chain.length + 2 = n) && okFT ops n (ops.size - n) (chain.length + 2) chain [i1, i2] (Array.replicate ops.size false) && decide (i1 ≠ i2)
theorem wp_region_free2 {id : Nat} {a : Act} {w : World} {l : List Oper} (f1 f2 : FA) (n : Nat) (chain : List Nat) (hm : P.follows .mixedOrders = true) (hB : freeB l.toArray n chain f1.i f2.i = true) (hd : f1.d ≠ f2.d)
  (hA1 : IsAlloc P l.toArray Q f1) (hA2 : IsAlloc P l.toArray Q f2)
  (hQ : ∀ (c : List PanicEntry) (a : Act) (d : Option Tmp) (v : Value) (w : World), Q (.panic c) (a.put d v) w -> Q (.panic c) a w)
  (hu1 : a.put f1.d undef = a) (hu2 : a.put f2.d undef = a)
  (h : FrT P l.toArray Q (fun a' w' => wpList P l.toArray Q (l.drop n) a' w') f1 f2 w.heap.size chain w.drew [] a) : (Code.region id l.toArray true).wp P Q a w := by
 simp only [freeB, Bool.and_eq_true, decide_eq_true_eq] at hB; obtain ⟨⟨⟨⟨⟨⟨hsel, hn⟩, hs⟩, hc⟩, hol⟩, hok⟩, hi⟩ := hB
 have inv0 : HeadInv .any l.toArray n (Array.replicate l.toArray.size false) :=
  ⟨by simp, fun j oj _ hl => (by rw [getD_replicate_false] at hl; cases hl), fun t _ ht => getD_in (by simpa using ht) (getD_replicate_false _ _)⟩
 have H := frT_held hsel hs hc hn hQ hd hi hA1 hA2 (chain.length + 2) chain none none _ w.drew [] a undef undef w.drew hok inv0 (Nat.le_refl _) (fun p hp => by simp at hp) (Grow.refl _) trivial trivial (fun b1 b2 e => by cases e) h; have e : f1.put2 f2 undef undef a = a := by unfold FA.put2; rw [hu1, hu2]
 rw [e] at H; refine wp_region_any hm ?_; have hdl : (l.drop n).length = l.toArray.size - n := by simp
 have := wpAny_of_HL (P := P) (Q := Q) (g := l.toArray.size - n) (fun listed a' w' hL => by
  have := wpAny_of_seq (P := P) (md := .any) (Q' := Q) (l.drop n) n listed a' w' (fun j => by simp [List.getElem?_drop]) (by rw [hdl]; exact hL.1) hL.2
  rwa [hdl] at this) _ _ _ _ H
 rw [hol, show n + (l.toArray.size - n) = l.toArray.size by omega] at this; exact this
variable {L : Act -> World -> Prop} {f1 f2 : FA} {base : Nat}
theorem fr_nil {w : World} {I : List (Nat × Nat)} {a : Act} (h : ∀ b1 b2 W, Grow w W -> b1 ≠ b2 -> BoxAt f1 base W I b1 -> BoxAt f2 base W I b2 -> L (f1.put2 f2 (ptrTo b1) (ptrTo b2) a) W) : FrT P ops Q L f1 f2 base [] w I a := h
theorem fr_take {l : List Oper} {w : World} {I : List (Nat × Nat)} {a : Act} {c : Nat} {cs : List Nat} {o : Oper} {v : Value} (ho : nthO l c = some o) (hd1 : o.dst ≠ f1.d) (hd2 : o.dst ≠ f2.d)
  (hw : ∀ x1 x2, Region.wanted o (yielded l.toArray (f1.put2 f2 x1 x2 a).tmps) = true) (hy : ∀ x1 x2 W, Grow w W -> (execOp (f1.put2 f2 x1 x2 a).eval o).run P W = .ok (.value v) W)
  (h : FrT P l.toArray Q L f1 f2 base cs w I (a.put o.dst v)) : FrT P l.toArray Q L f1 f2 base (c :: cs) w I a :=
 ⟨o, (nthO_eq l c).trans ho, hd1, hd2, .inl ⟨v, fun x1 x2 => .inl ⟨hw x1 x2, fun W hW => hy x1 x2 W hW⟩, h⟩⟩
theorem fr_turn {l : List Oper} {w : World} {I : List (Nat × Nat)} {a : Act} {c : Nat} {cs : List Nat} {o : Oper} (ho : nthO l c = some o) (ht : turns o = true) (hd1 : o.dst ≠ f1.d) (hd2 : o.dst ≠ f2.d)
  (hw : ∀ x1 x2, Region.wanted o (yielded l.toArray (f1.put2 f2 x1 x2 a).tmps) = true)
  (h : ∀ x1 x2 W, Grow w W -> ∀ K' : Act -> World -> Prop, Shut (∀ v W', Grow W W' -> FrT P l.toArray Q L f1 f2 base cs W' ((W.heap.size, W'.heap.size) :: I) (a.put o.dst v) -> K' ((f1.put2 f2 x1 x2 a).put o.dst v) W') -> Oper.wp P o (f1.put2 f2 x1 x2 a) W K' Q) :
  FrT P l.toArray Q L f1 f2 base (c :: cs) w I a :=
 ⟨o, (nthO_eq l c).trans ho, hd1, hd2, .inr ⟨ht, fun x1 x2 W hW => wpOp_step ((nthO_eq l c).trans ho) fun K' hK => by
  rw [if_pos (hw x1 x2)]
  exact h x1 x2 W hW K' fun v W' hg hf => hK _ _ ⟨v, rfl, hg, hf⟩⟩⟩
end
end Go.Proofs.YteeeeddeacepmaaGreatDoor.B
namespace Go.Proofs.YteeeeddeacepmaaGreatDoor.B
set_option maxRecDepth 100000
open Go.RowKit
section
variable {P : Program} {ops : Array Oper} {Q : Exit -> Act -> World -> Prop}
def Fr1 (P : Program) (ops : Array Oper) (Q : Exit -> Act -> World -> Prop) (L : Act -> World -> Prop) (f : FA) (base : Nat) : List Nat -> World -> List (Nat × Nat) -> Act -> Prop
 | [], w, I, a => ∀ b W, Grow w W -> BoxAt f base W I b -> L (a.put f.d (ptrTo b)) W
 | c :: cs, w, I, a => ∃ o, ops[c]? = some o /\ o.dst ≠ f.d /\
   ((∃ v, (∀ x, YieldsIf P ops (Grow w) o v (a.put f.d x)) /\ Fr1 P ops Q L f base cs w I (a.put o.dst v)) ∨
    (turns o = true /\ ∀ x W, Grow w W -> wpOp P ops Q c (fun a' W' => ∃ v, a' = (a.put f.d x).put o.dst v /\ Grow W W' /\ Fr1 P ops Q L f base cs W' ((W.heap.size, W'.heap.size) :: I) (a.put o.dst v)) (a.put f.d x) W))
def pend1 (f : FA) : Option Nat -> List Nat
 | none => [f.i]
 | some _ => []
theorem fr1_held {n g : Nat} {L : Act -> World -> Prop} {f : FA} {base : Nat} (hsel : Region.noSelect ops = true) (hs : Region.sinkB .any ops n = true) (hc : Region.chainB .any ops n = true) (hn : n < ops.size)
  (hQ : ∀ (c : List PanicEntry) (a : Act) (d : Option Tmp) (v : Value) (w : World), Q (.panic c) (a.put d v) w -> Q (.panic c) a w)
  (hA : IsAlloc P ops Q f) :
  ∀ (k : Nat) (chain : List Nat) (s : Option Nat) (listed : Array Bool) (w : World) (I : List (Nat × Nat)) (a : Act) (x : Value) (W : World),
   okFT ops n g k chain (pend1 f s) listed = true -> HeadInv .any ops n listed -> base <= w.heap.size -> (∀ p ∈ I, p.2 <= w.heap.size) -> Grow w W ->
   Laid f base W I x s -> Fr1 P ops Q L f base chain w I a ->
   wpHL P ops Q n (fun listed' a' w' => Region.seqB .any ops g n listed' = true /\ L a' w') (Grow w) k listed (a.put f.d x) W := by
 intro k
 induction k with
 | zero =>
  intro chain s listed w I a x W hok inv hb hI hg h1 h; simp only [okFT, Bool.and_eq_true, List.isEmpty_iff] at hok; obtain ⟨⟨hch, hp⟩, hseq⟩ := hok; subst hch
  cases s with
  | none => simp [pend1] at hp
  | some b =>
   obtain ⟨rfl, h1⟩ := h1; exact ⟨hseq, h b W hg h1⟩
 | succ k ih =>
  intro chain s listed w I a x W hok inv hb hI hg h1 h
  have lay : ∀ i ∈ Region.ready .any ops listed, i < n -> i ∈ pend1 f s -> okFT ops n g k chain ((pend1 f s).erase i) (listed.setIfInBounds i true) = true ->
    wpOp P ops Q i (fun a' w' => Grow w w' /\ wpHL P ops Q n (fun listed' a' w' => Region.seqB .any ops g n listed' = true /\ L a' w') (Grow w) k (listed.setIfInBounds i true) a' w') (a.put f.d x) W := by
   intro i hir hin hip hok'; have hbW : base <= W.heap.size := Nat.le_trans hb hg.size; have hIW : ∀ p ∈ I, W.heap.size < p.1 ∨ p.2 <= W.heap.size := fun p hp => .inr (Nat.le_trans (hI p hp) hg.size)
   cases s with
   | none =>
    simp only [pend1, List.mem_cons, List.not_mem_nil, or_false] at hip; subst hip; refine hA.step _ W ⟨hg.al _, ?_⟩; rw [put_put]; exact ih chain (some W.heap.size) _ w I a _ _ (by simpa [pend1] using hok') (inv.set hir hin) hb hI (hg.al _) ⟨rfl, heap_alloc_new W _, hbW, hIW⟩ h
   | some b => simp [pend1] at hip
  cases chain with
  | nil =>
   simp only [okFT, Bool.and_eq_true, List.all_eq_true, decide_eq_true_eq] at hok; obtain ⟨⟨hr, hall⟩, hp⟩ := hok; refine ⟨fun e => by rw [e] at hr; simp at hr, fun i hir => ?_⟩; have hip : i ∈ pend1 f s := by simpa using hall i hir
   exact ⟨(hp i hip).1, lay i hir (hp i hip).1 hip (hp i hip).2⟩
  | cons c cs =>
   obtain ⟨o, ho, hd1, hcs⟩ := h; simp only [okFT, ho, Bool.and_eq_true, decide_eq_true_eq] at hok; obtain ⟨hcn, hok⟩ := hok; have puto : ∀ v, (a.put f.d x).put o.dst v = (a.put o.dst v).put f.d x := fun v => put_comm _ hd1.symm _ _
   rcases hcs with ⟨v, hy, hk⟩ | ⟨ht, hw⟩
   ·by_cases ht : turns o = true
    ·rw [if_pos ht] at hok
     simp only [Bool.and_eq_true, List.all_eq_true, decide_eq_true_eq] at hok; obtain ⟨⟨⟨hr, hall⟩, hok1⟩, hp⟩ := hok; refine ⟨fun e => by rw [e] at hr; simp at hr, fun i hir => ?_⟩; have hi2 := hall i hir; simp only [Bool.or_eq_true, beq_iff_eq] at hi2; rcases hi2 with rfl | hip
     ·refine ⟨hcn, (hy x).wpOp ho hg ⟨hg, ?_⟩⟩
      rw [puto]; exact ih cs s _ w I _ _ _ hok1 (inv.set hir hcn) hb hI hg h1 hk
     ·have hip : i ∈ pend1 f s := by simpa using hip
      exact ⟨(hp i hip).1, lay i hir (hp i hip).1 hip (hp i hip).2⟩
    ·rw [if_neg ht] at hok
     simp only [Bool.and_eq_true] at hok; obtain ⟨⟨hfr, hct⟩, hok1⟩ := hok; have hir : c ∈ Region.ready .any ops listed := by simpa using hct
     have hk2 := ih cs s _ w I _ x W hok1 (inv.set hir hcn) hb hI hg h1 hk; rw [<- puto] at hk2; exact wpHL_first ho (Region.noSelect_spec hsel) hs hc hn hcn (fun listed' a' w' hL => seqB_ready hL.1) (fun c a w => hQ c a o.dst v w) _ _ _ W inv (Region.free_spec ho hfr) hir (hy x) hg hk2
   ·rw [if_pos ht] at hok
    simp only [Bool.and_eq_true, List.all_eq_true, decide_eq_true_eq] at hok; obtain ⟨⟨⟨hr, hall⟩, hok1⟩, hp⟩ := hok; refine ⟨fun e => by rw [e] at hr; simp at hr, fun i hir => ?_⟩; have hi2 := hall i hir; simp only [Bool.or_eq_true, beq_iff_eq] at hi2; rcases hi2 with rfl | hip
    ·refine ⟨hcn, wpOp_mono (fun a' W' h' => ?_) (hw x W hg)⟩
     obtain ⟨v, rfl, hgW, hk⟩ := h'; refine ⟨hg.tr hgW, ?_⟩; rw [puto]; refine wpHL_mono (fun X hX => (hg.tr hgW).tr hX) _ _ _ _ (ih cs s _ W' _ _ x W' hok1 (inv.set hir hcn) (Nat.le_trans hb (hg.tr hgW).size) (fun p hp => ?_) (Grow.refl _) (h1.call hgW) hk); rcases List.mem_cons.1 hp with rfl | hp
     ·exact Nat.le_refl _
     ·exact Nat.le_trans (hI p hp) (hg.tr hgW).size
    ·have hip : i ∈ pend1 f s := by simpa using hip
     exact ⟨(hp i hip).1, lay i hir (hp i hip).1 hip (hp i hip).2⟩
def freeB1 (ops : Array Oper) (n : Nat) (chain : List Nat) (i : Nat) : Bool :=
 Region.noSelect ops && decide (n < ops.size) && Region.sinkB .any ops n && Region.chainB .any ops n && decide (chain.length + 1 = n) && okFT ops n (ops.size - n) (chain.length + 1) chain [i] (Array.replicate ops.size false)
theorem wp_region_free1 {id : Nat} {a : Act} {w : World} {l : List Oper} (f : FA) (n : Nat) (chain : List Nat) (hm : P.follows .mixedOrders = true) (hB : freeB1 l.toArray n chain f.i = true)
  (hA : IsAlloc P l.toArray Q f)
  (hQ : ∀ (c : List PanicEntry) (a : Act) (d : Option Tmp) (v : Value) (w : World), Q (.panic c) (a.put d v) w -> Q (.panic c) a w)
  (hu : a.put f.d undef = a)
  (h : Fr1 P l.toArray Q (fun a' w' => wpList P l.toArray Q (l.drop n) a' w') f w.heap.size chain w.drew [] a) : (Code.region id l.toArray true).wp P Q a w := by
 simp only [freeB1, Bool.and_eq_true, decide_eq_true_eq] at hB; obtain ⟨⟨⟨⟨⟨hsel, hn⟩, hs⟩, hc⟩, hol⟩, hok⟩ := hB
 have inv0 : HeadInv .any l.toArray n (Array.replicate l.toArray.size false) :=
  ⟨by simp, fun j oj _ hl => (by rw [getD_replicate_false] at hl; cases hl), fun t _ ht => getD_in (by simpa using ht) (getD_replicate_false _ _)⟩
 have H := fr1_held hsel hs hc hn hQ hA (chain.length + 1) chain none _ w.drew [] a undef w.drew hok inv0 (Nat.le_refl _) (fun p hp => by simp at hp) (Grow.refl _) trivial h; rw [hu] at H; refine wp_region_any hm ?_; have hdl : (l.drop n).length = l.toArray.size - n := by simp
 have := wpAny_of_HL (P := P) (Q := Q) (g := l.toArray.size - n) (fun listed a' w' hL => by
  have := wpAny_of_seq (P := P) (md := .any) (Q' := Q) (l.drop n) n listed a' w' (fun j => by simp [List.getElem?_drop]) (by rw [hdl]; exact hL.1) hL.2
  rwa [hdl] at this) _ _ _ _ H
 rw [hol, show n + (l.toArray.size - n) = l.toArray.size by omega] at this; exact this
variable {L : Act -> World -> Prop} {f : FA} {base : Nat}
theorem fr1_nil {w : World} {I : List (Nat × Nat)} {a : Act} (h : ∀ b W, Grow w W -> BoxAt f base W I b -> L (a.put f.d (ptrTo b)) W) : Fr1 P ops Q L f base [] w I a := h
theorem fr1_take {l : List Oper} {w : World} {I : List (Nat × Nat)} {a : Act} {c : Nat} {cs : List Nat} {o : Oper} {v : Value} (ho : nthO l c = some o) (hd1 : o.dst ≠ f.d)
  (hw : ∀ x, Region.wanted o (yielded l.toArray (a.put f.d x).tmps) = true) (hy : ∀ x W, Grow w W -> (execOp (a.put f.d x).eval o).run P W = .ok (.value v) W)
  (h : Fr1 P l.toArray Q L f base cs w I (a.put o.dst v)) : Fr1 P l.toArray Q L f base (c :: cs) w I a :=
 ⟨o, (nthO_eq l c).trans ho, hd1, .inl ⟨v, fun x => .inl ⟨hw x, fun W hW => hy x W hW⟩, h⟩⟩
theorem fr1_turn {l : List Oper} {w : World} {I : List (Nat × Nat)} {a : Act} {c : Nat} {cs : List Nat} {o : Oper} (ho : nthO l c = some o) (ht : turns o = true) (hd1 : o.dst ≠ f.d)
  (hw : ∀ x, Region.wanted o (yielded l.toArray (a.put f.d x).tmps) = true)
  (h : ∀ x W, Grow w W -> ∀ K' : Act -> World -> Prop, Shut (∀ v W', Grow W W' -> Fr1 P l.toArray Q L f base cs W' ((W.heap.size, W'.heap.size) :: I) (a.put o.dst v) -> K' ((a.put f.d x).put o.dst v) W') -> Oper.wp P o (a.put f.d x) W K' Q) :
  Fr1 P l.toArray Q L f base (c :: cs) w I a :=
 ⟨o, (nthO_eq l c).trans ho, hd1, .inr ⟨ht, fun x W hW => wpOp_step ((nthO_eq l c).trans ho) fun K' hK => by
  rw [if_pos (hw x)]
  exact h x W hW K' fun v W' hg hf => hK _ _ ⟨v, rfl, hg, hf⟩⟩⟩
end
end Go.Proofs.YteeeeddeacepmaaGreatDoor.B
namespace Go.Proofs.YteeeeddeacepmaaGreatDoor.B
set_option maxRecDepth 100000
open Go.RowKit
variable {P : Program} {Q : Exit -> Act -> World -> Prop}
theorem wp_region_free1At {id : Nat} {a : Act} {w : World} {l : List Oper} (f : FA) (n : Nat) (chain : List Nat) (hm : P.follows .mixedOrders = true) (hB : freeB1 l.toArray n chain f.i = true)
  (hA : IsAlloc P l.toArray Q f)
  (hQ : ∀ (c : List PanicEntry) (a : Act) (d : Option Tmp) (v : Value) (w : World), Q (.panic c) (a.put d v) w -> Q (.panic c) a w)
  (u : Value) (hu : a.put f.d u = a)
  (h : Fr1 P l.toArray Q (fun a' w' => wpList P l.toArray Q (l.drop n) a' w') f w.heap.size chain w.drew [] a) : (Code.region id l.toArray true).wp P Q a w := by
 simp only [freeB1, Bool.and_eq_true, decide_eq_true_eq] at hB; obtain ⟨⟨⟨⟨⟨hsel, hn⟩, hs⟩, hc⟩, hol⟩, hok⟩ := hB
 have inv0 : HeadInv .any l.toArray n (Array.replicate l.toArray.size false) :=
  ⟨by simp, fun j oj _ hl => (by rw [getD_replicate_false] at hl; cases hl), fun t _ ht => getD_in (by simpa using ht) (getD_replicate_false _ _)⟩
 have H := fr1_held hsel hs hc hn hQ hA (chain.length + 1) chain none _ w.drew [] a u w.drew hok inv0 (Nat.le_refl _) (fun p hp => by simp at hp) (Grow.refl _) trivial h; rw [hu] at H; refine wp_region_any hm ?_; have hdl : (l.drop n).length = l.toArray.size - n := by simp
 have := wpAny_of_HL (P := P) (Q := Q) (g := l.toArray.size - n) (fun listed a' w' hL => by
  have := wpAny_of_seq (P := P) (md := .any) (Q' := Q) (l.drop n) n listed a' w' (fun j => by simp [List.getElem?_drop]) (by rw [hdl]; exact hL.1) hL.2
  rwa [hdl] at this) _ _ _ _ H
 rw [hol, show n + (l.toArray.size - n) = l.toArray.size by omega] at this; exact this
end Go.Proofs.YteeeeddeacepmaaGreatDoor.B
namespace Go.Proofs.YteeeeddeacepmaaGreatDoor.B
set_option maxRecDepth 100000
open Go.RowKit
section
variable {P : Program} {ops : Array Oper} {Q : Exit -> Act -> World -> Prop}
def BoxS (f : FA) (w0 W : World) (b : Nat) : Prop := w0.heap.size <= b /\ W.heap[b]? = some (.cells f.cs f.t (0, 0))
def LaidS (f : FA) (w0 W : World) (x : Value) : Option Nat -> Prop
 | none => True
 | some b => x = ptrTo b /\ BoxS f w0 W b
theorem LaidS.grow {f : FA} {w0 W W' : World} {x : Value} {s : Option Nat} (h : LaidS f w0 W x s) (hg : Grow W W') : LaidS f w0 W' x s := by
 cases s with
 | none => trivial
 | some b => exact ⟨h.1, h.2.1, (hg.block b (lt_of_block h.2.2)).trans h.2.2⟩
def Mono (J : World -> Prop) : Prop := ∀ W W', Grow W W' -> J W -> J W'
def FrS (P : Program) (ops : Array Oper) (Q : Exit -> Act -> World -> Prop) (L : Act -> World -> Prop) (f1 f2 : FA) (w0 : World) : List Nat -> (World -> Prop) -> Act -> Prop
 | [], J, a => ∀ b1 b2 W, Grow w0 W -> J W -> b1 ≠ b2 -> BoxS f1 w0 W b1 -> BoxS f2 w0 W b2 -> L (f1.put2 f2 (ptrTo b1) (ptrTo b2) a) W
 | c :: cs, J, a => ∃ o, ops[c]? = some o /\ o.dst ≠ f1.d /\ o.dst ≠ f2.d /\
   ((∃ v, (∀ x1 x2, YieldsIf P ops (Grow w0) o v (f1.put2 f2 x1 x2 a)) /\ FrS P ops Q L f1 f2 w0 cs J (a.put o.dst v)) ∨
    (turns o = true /\ ∀ x1 x2 W, Grow w0 W -> J W -> wpOp P ops Q c (fun a' W' => ∃ (v : Value) (J' : World -> Prop), a' = (f1.put2 f2 x1 x2 a).put o.dst v /\ Grow W W' /\ Mono J' /\ J' W' /\ FrS P ops Q L f1 f2 w0 cs J' (a.put o.dst v)) (f1.put2 f2 x1 x2 a) W))
def okFS (ops : Array Oper) (n g : Nat) (ls : List Nat) : Nat -> List Nat -> List Nat -> Array Bool -> Bool
 | 0, chain, p, listed => chain.isEmpty && p.isEmpty && lexOkT ops n g ls listed
 | k + 1, [], p, listed => !(Region.ready .any ops listed).isEmpty && (Region.ready .any ops listed).all (fun i => p.contains i) && p.all (fun i => decide (i < n) && okFS ops n g ls k [] (p.erase i) (listed.setIfInBounds i true))
 | k + 1, c :: cs, p, listed => decide (c < n) &&
  (match ops[c]? with
   | none => false
   | some o => if turns o then !(Region.ready .any ops listed).isEmpty && (Region.ready .any ops listed).all (fun i => i == c || p.contains i) && okFS ops n g ls k cs p (listed.setIfInBounds c true) && p.all (fun i => decide (i < n) && okFS ops n g ls k (c :: cs) (p.erase i) (listed.setIfInBounds i true))
    else Region.free .any ops listed c && (Region.ready .any ops listed).contains c && okFS ops n g ls k cs p (listed.setIfInBounds c true))
theorem frS_held {n g : Nat} {Lq : Act -> World -> Prop} {f1 f2 : FA} {w0 : World} {ls : List Nat} (hsel : Region.noSelect ops = true) (hs : Region.sinkB .any ops n = true) (hc : Region.chainB .any ops n = true) (hn : n < ops.size)
  (hQ : ∀ (c : List PanicEntry) (a : Act) (d : Option Tmp) (v : Value) (w : World), Q (.panic c) (a.put d v) w -> Q (.panic c) a w)
  (hd : f1.d ≠ f2.d) (hi : f1.i ≠ f2.i) (hA1 : IsAlloc P ops Q f1) (hA2 : IsAlloc P ops Q f2) :
  ∀ (k : Nat) (chain : List Nat) (s1 s2 : Option Nat) (listed : Array Bool) (J : World -> Prop) (a : Act) (x1 x2 : Value) (W : World),
   okFS ops n g ls k chain (pendOf f1 f2 s1 s2) listed = true -> HeadInv .any ops n listed -> Grow w0 W -> Mono J -> J W ->
   LaidS f1 w0 W x1 s1 -> LaidS f2 w0 W x2 s2 -> (∀ b1 b2, s1 = some b1 -> s2 = some b2 -> b1 ≠ b2) ->
   FrS P ops Q (fun a W => ∃ G : World -> Prop, (∀ W, G W -> Grow w0 W) /\ G W /\ LexT P ops Q Lq ls G a W) f1 f2 w0 chain J a ->
   wpHL P ops Q n (fun listed' a' w' => Region.seqB .any ops g n listed' = true /\ Lq a' w') (Grow w0) (k + ls.length) listed (f1.put2 f2 x1 x2 a) W := by
 intro k
 induction k with
 | zero =>
  intro chain s1 s2 listed J a x1 x2 W hok inv hg hm hJ h1 h2 hne h; simp only [okFS, Bool.and_eq_true, List.isEmpty_iff] at hok; obtain ⟨⟨hch, hp⟩, hseq⟩ := hok; subst hch
  cases s1 with
  | none => cases s2 <;> simp [pendOf] at hp
  | some b1 =>
   cases s2 with
   | none => simp [pendOf] at hp
   | some b2 =>
    obtain ⟨rfl, h1⟩ := h1; obtain ⟨rfl, h2⟩ := h2; obtain ⟨G, hG, hGW, hL⟩ := h b1 b2 W hg hJ (hne _ _ rfl rfl) h1 h2; rw [Nat.zero_add]; exact wpHL_mono hG _ _ _ _ (lexT_held hsel hs hc hn hQ ls G _ _ _ hseq inv hGW hL)
 | succ k ih =>
  intro chain s1 s2 listed J a x1 x2 W hok inv hg hm hJ h1 h2 hne h; rw [show k + 1 + ls.length = (k + ls.length) + 1 by omega]
  have lay : ∀ i ∈ Region.ready .any ops listed, i < n -> i ∈ pendOf f1 f2 s1 s2 -> okFS ops n g ls k chain ((pendOf f1 f2 s1 s2).erase i) (listed.setIfInBounds i true) = true ->
    wpOp P ops Q i (fun a' w' => Grow w0 w' /\ wpHL P ops Q n (fun listed' a' w' => Region.seqB .any ops g n listed' = true /\ Lq a' w') (Grow w0) (k + ls.length) (listed.setIfInBounds i true) a' w') (f1.put2 f2 x1 x2 a) W := by
   intro i hir hin hip hok'; have hbW : w0.heap.size <= W.heap.size := hg.size; have hgA : Grow W (W.alloc (.cells f1.cs f1.t)) := (Grow.refl W).al _; have hgB : Grow W (W.alloc (.cells f2.cs f2.t)) := (Grow.refl W).al _
   have new1 : s1 = none -> i = f1.i -> okFS ops n g ls k chain (pendOf f1 f2 (some W.heap.size) s2) (listed.setIfInBounds i true) = true -> wpOp P ops Q i (fun a' w' => Grow w0 w' /\ wpHL P ops Q n (fun listed' a' w' => Region.seqB .any ops g n listed' = true /\ Lq a' w') (Grow w0) (k + ls.length) (listed.setIfInBounds i true) a' w') (f1.put2 f2 x1 x2 a) W := by
    rintro rfl rfl hok2; refine hA1.step _ W ⟨hg.al _, ?_⟩
    have e : (f1.put2 f2 x1 x2 a).put f1.d (ptrTo W.heap.size) = f1.put2 f2 (ptrTo W.heap.size) x2 a := by
     unfold FA.put2; rw [put_comm _ hd.symm, put_put]
    rw [e]
    exact ih chain (some W.heap.size) s2 _ J a _ _ _ hok2 (inv.set hir hin) (hg.al _) hm (hm _ _ hgA hJ) ⟨rfl, hbW, heap_alloc_new W _⟩ (h2.grow hgA)
     (fun b1 b2 e1 e2 => by
      injection e1 with e1
      subst e1 e2; have := lt_of_block h2.2.2
      omega) h
   have new2 : s2 = none -> i = f2.i -> okFS ops n g ls k chain (pendOf f1 f2 s1 (some W.heap.size)) (listed.setIfInBounds i true) = true -> wpOp P ops Q i (fun a' w' => Grow w0 w' /\ wpHL P ops Q n (fun listed' a' w' => Region.seqB .any ops g n listed' = true /\ Lq a' w') (Grow w0) (k + ls.length) (listed.setIfInBounds i true) a' w') (f1.put2 f2 x1 x2 a) W := by
    rintro rfl rfl hok2; refine hA2.step _ W ⟨hg.al _, ?_⟩
    have e : (f1.put2 f2 x1 x2 a).put f2.d (ptrTo W.heap.size) = f1.put2 f2 x1 (ptrTo W.heap.size) a := by
     unfold FA.put2; rw [put_put]
    rw [e]
    exact ih chain s1 (some W.heap.size) _ J a _ _ _ hok2 (inv.set hir hin) (hg.al _) hm (hm _ _ hgB hJ) (h1.grow hgB) ⟨rfl, hbW, heap_alloc_new W _⟩
     (fun b1 b2 e1 e2 => by
      injection e2 with e2
      subst e1 e2; have := lt_of_block h1.2.2
      omega) h
   cases s1 with
   | none =>
    cases s2 with
    | none =>
     simp only [pendOf, List.mem_cons, List.not_mem_nil, or_false] at hip; rcases hip with rfl | rfl
     ·exact new1 rfl rfl (by simpa [pendOf] using hok')
     ·exact new2 rfl rfl (by simpa [pendOf, List.erase_cons, hi] using hok')
    | some b2 =>
     simp only [pendOf, List.mem_cons, List.not_mem_nil, or_false] at hip; subst hip; exact new1 rfl rfl (by simpa [pendOf] using hok')
   | some b1 =>
    cases s2 with
    | none =>
     simp only [pendOf, List.mem_cons, List.not_mem_nil, or_false] at hip; subst hip; exact new2 rfl rfl (by simpa [pendOf] using hok')
    | some b2 => simp [pendOf] at hip
  cases chain with
  | nil =>
   simp only [okFS, Bool.and_eq_true, List.all_eq_true, decide_eq_true_eq] at hok; obtain ⟨⟨hr, hall⟩, hp⟩ := hok; refine ⟨fun e => by rw [e] at hr; simp at hr, fun i hir => ?_⟩; have hip : i ∈ pendOf f1 f2 s1 s2 := by simpa using hall i hir
   exact ⟨(hp i hip).1, lay i hir (hp i hip).1 hip (hp i hip).2⟩
  | cons c cs =>
   obtain ⟨o, ho, hd1, hd2, hcs⟩ := h; simp only [okFS, ho, Bool.and_eq_true, decide_eq_true_eq] at hok; obtain ⟨hcn, hok⟩ := hok
   have puto : ∀ v, (f1.put2 f2 x1 x2 a).put o.dst v = f1.put2 f2 x1 x2 (a.put o.dst v) := fun v => by
    unfold FA.put2; rw [put_comm _ hd2.symm, put_comm _ hd1.symm]
   rcases hcs with ⟨v, hy, hk⟩ | ⟨ht, hw⟩
   ·by_cases ht : turns o = true
    ·rw [if_pos ht] at hok
     simp only [Bool.and_eq_true, List.all_eq_true, decide_eq_true_eq] at hok; obtain ⟨⟨⟨hr, hall⟩, hok1⟩, hp⟩ := hok; refine ⟨fun e => by rw [e] at hr; simp at hr, fun i hir => ?_⟩; have hi2 := hall i hir; simp only [Bool.or_eq_true, beq_iff_eq] at hi2; rcases hi2 with rfl | hip
     ·refine ⟨hcn, (hy x1 x2).wpOp ho hg ⟨hg, ?_⟩⟩
      rw [puto]; exact ih cs s1 s2 _ J _ _ _ _ hok1 (inv.set hir hcn) hg hm hJ h1 h2 hne hk
     ·have hip : i ∈ pendOf f1 f2 s1 s2 := by simpa using hip
      exact ⟨(hp i hip).1, lay i hir (hp i hip).1 hip (hp i hip).2⟩
    ·rw [if_neg ht] at hok
     simp only [Bool.and_eq_true] at hok; obtain ⟨⟨hfr, hct⟩, hok1⟩ := hok; have hir : c ∈ Region.ready .any ops listed := by simpa using hct
     have hk2 := ih cs s1 s2 _ J _ x1 x2 W hok1 (inv.set hir hcn) hg hm hJ h1 h2 hne hk; rw [<- puto] at hk2; exact wpHL_first ho (Region.noSelect_spec hsel) hs hc hn hcn (fun listed' a' w' hL => seqB_ready hL.1) (fun c a w => hQ c a o.dst v w) _ _ _ W inv (Region.free_spec ho hfr) hir (hy x1 x2) hg hk2
   ·rw [if_pos ht] at hok
    simp only [Bool.and_eq_true, List.all_eq_true, decide_eq_true_eq] at hok; obtain ⟨⟨⟨hr, hall⟩, hok1⟩, hp⟩ := hok; refine ⟨fun e => by rw [e] at hr; simp at hr, fun i hir => ?_⟩; have hi2 := hall i hir; simp only [Bool.or_eq_true, beq_iff_eq] at hi2; rcases hi2 with rfl | hip
    ·refine ⟨hcn, wpOp_mono (fun a' W' h' => ?_) (hw x1 x2 W hg hJ)⟩
     obtain ⟨v, J', rfl, hgW, hm', hJ', hk⟩ := h'; refine ⟨hg.tr hgW, ?_⟩; rw [puto]; exact ih cs s1 s2 _ J' _ x1 x2 W' hok1 (inv.set hir hcn) (hg.tr hgW) hm' hJ' (h1.grow hgW) (h2.grow hgW) hne hk
    ·have hip : i ∈ pendOf f1 f2 s1 s2 := by simpa using hip
     exact ⟨(hp i hip).1, lay i hir (hp i hip).1 hip (hp i hip).2⟩
def freeSB (ops : Array Oper) (n : Nat) (chain ls : List Nat) (i1 i2 : Nat) : Bool :=
 Region.noSelect ops && decide (n < ops.size) && Region.sinkB .any ops n && Region.chainB .any ops n && decide (chain.length + 2 + ls.length = n) && okFS ops n (ops.size - n) ls (chain.length + 2) chain [i1, i2] (Array.replicate ops.size false) && decide (i1 ≠ i2)
theorem wp_region_freeS {id : Nat} {a : Act} {w : World} {l : List Oper} (f1 f2 : FA) (n : Nat) (chain ls : List Nat) (hm : P.follows .mixedOrders = true) (hB : freeSB l.toArray n chain ls f1.i f2.i = true) (hd : f1.d ≠ f2.d)
  (hA1 : IsAlloc P l.toArray Q f1) (hA2 : IsAlloc P l.toArray Q f2)
  (hQ : ∀ (c : List PanicEntry) (a : Act) (d : Option Tmp) (v : Value) (w : World), Q (.panic c) (a.put d v) w -> Q (.panic c) a w)
  (u1 u2 : Value) (hu1 : a.put f1.d u1 = a) (hu2 : a.put f2.d u2 = a)
  (h : FrS P l.toArray Q (fun a W => ∃ G : World -> Prop, (∀ W, G W -> Grow w.drew W) /\ G W /\ LexT P l.toArray Q (fun a' w' => wpList P l.toArray Q (l.drop n) a' w') ls G a W) f1 f2 w.drew chain (fun _ => True) a) : (Code.region id l.toArray true).wp P Q a w := by
 simp only [freeSB, Bool.and_eq_true, decide_eq_true_eq] at hB; obtain ⟨⟨⟨⟨⟨⟨hsel, hn⟩, hs⟩, hc⟩, hol⟩, hok⟩, hi⟩ := hB
 have inv0 : HeadInv .any l.toArray n (Array.replicate l.toArray.size false) :=
  ⟨by simp, fun j oj _ hl => (by rw [getD_replicate_false] at hl; cases hl), fun t _ ht => getD_in (by simpa using ht) (getD_replicate_false _ _)⟩
 have H := frS_held hsel hs hc hn hQ hd hi hA1 hA2 (chain.length + 2) chain none none _ _ a u1 u2 w.drew hok inv0 (Grow.refl _) (fun _ _ _ h => h) trivial trivial trivial (fun b1 b2 e => by cases e) h; have e : f1.put2 f2 u1 u2 a = a := by unfold FA.put2; first | rw [hu1, hu2] | rw [hu2, hu1]
 rw [e] at H; refine wp_region_any hm ?_; have hdl : (l.drop n).length = l.toArray.size - n := by simp
 have := wpAny_of_HL (P := P) (Q := Q) (g := l.toArray.size - n) (fun listed a' w' hL => by
  have := wpAny_of_seq (P := P) (md := .any) (Q' := Q) (l.drop n) n listed a' w' (fun j => by simp [List.getElem?_drop]) (by rw [hdl]; exact hL.1) hL.2
  rwa [hdl] at this) _ _ _ _ H
 rw [hol, show n + (l.toArray.size - n) = l.toArray.size by omega] at this; exact this
variable {L : Act -> World -> Prop} {f1 f2 : FA} {w0 : World} {J : World -> Prop}
theorem frs_nil {a : Act} (h : ∀ b1 b2 W, Grow w0 W -> J W -> b1 ≠ b2 -> BoxS f1 w0 W b1 -> BoxS f2 w0 W b2 -> L (f1.put2 f2 (ptrTo b1) (ptrTo b2) a) W) : FrS P ops Q L f1 f2 w0 [] J a := h
theorem frs_take {l : List Oper} {a : Act} {c : Nat} {cs : List Nat} {o : Oper} {v : Value} (ho : nthO l c = some o) (hd1 : o.dst ≠ f1.d) (hd2 : o.dst ≠ f2.d)
  (hw : ∀ x1 x2, Region.wanted o (yielded l.toArray (f1.put2 f2 x1 x2 a).tmps) = true) (hy : ∀ x1 x2 W, Grow w0 W -> (execOp (f1.put2 f2 x1 x2 a).eval o).run P W = .ok (.value v) W)
  (h : FrS P l.toArray Q L f1 f2 w0 cs J (a.put o.dst v)) : FrS P l.toArray Q L f1 f2 w0 (c :: cs) J a :=
 ⟨o, (nthO_eq l c).trans ho, hd1, hd2, .inl ⟨v, fun x1 x2 => .inl ⟨hw x1 x2, fun W hW => hy x1 x2 W hW⟩, h⟩⟩
end
end Go.Proofs.YteeeeddeacepmaaGreatDoor.B
