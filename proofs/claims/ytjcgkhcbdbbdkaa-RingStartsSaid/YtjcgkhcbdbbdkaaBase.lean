/-
  Words of my own on memory: what a slice that came in reads as; what a call may do to the world. No program is named here.
-/
import Derived.WalkKit
import Derived.WalkLawsBesides
import Derived.WalkSpells
import Derived.WalkSmall
import Derived.Outline
import Derived.Lib.Hide
import Derived.Deep.QuietTactic
import Derived.BigQuiet
import Derived.Deep.LoopGhost
import Derived.Maps.AppendAt
import Derived.OwnWalk
import Derived.Laws.IdiomStrings
import Derived.Laws.BytesArg
import Derived.Handy
import Derived.Deep.RegionHeld3
import Derived.Deep.DeepFit
namespace Go.Proofs.Ytjcgkhcbdbbdkaa
open Go.RowKit

/-- The world has only grown: every block that was there is as it was. -/
abbrev Grow (w w' : World) : Prop := Below w.heap.size w w'

theorem Grow.refl (w : World) : Grow w w := Below.refl _ _
theorem Grow.tr {a b c : World} (h : Grow a b) (k : Grow b c) : Grow a c := Below.trans h (Below.mono k h.size)
theorem Grow.al {a b : World} (h : Grow a b) (o : Obj) : Grow a (b.alloc o) := Below.alloc h h.size o
theorem Grow.dn {a b : World} (h : Grow a b) (n : Nat) : Grow a (b.drewN n) := below_drewN h n
theorem Grow.set {a b : World} (h : Grow a b) {p : Addr} (hp : a.heap.size ≤ p.block) (u : Value) : Grow a (b.setCell p u) := Below.setCell h hp u

theorem Grow.dr {w w' : World} (h : Grow w w') : Grow w w'.drew := Below.drew h
theorem grow_drew {w w' : World} (h : Grow w.drew w') : Grow w w' := ⟨h.os, h.tape, h.output, h.size, h.block⟩
theorem grow_drewN {w w' : World} {n : Nat} (h : Grow (w.drewN n) w') : Grow w w' := ⟨h.os, h.tape, h.output, h.size, h.block⟩

theorem drewN_ex (w : World) (n m : Nat) : ∃ k, (w.drewN n).drewN m = w.drewN k := ⟨n + m, World.drewN_drewN _ _ _⟩

/-- 'v' is a slice value of n elements of 'size' cells each, which are 'xs' one behind the other, in blocks of S. -/
def Rd (w : World) (S : Nat → Prop) (size : Nat) (v : Value) (n : Nat) (xs : List Value) : Prop :=
  xs.length = n * size ∧ ∃ A c, v = .slice A n c ∧ n ≤ c ∧ c ≤ maxLen ∧ (A = none → c = 0) ∧
    (0 < n → ∃ b o, A = some ⟨b, o, none⟩ ∧ S b ∧ ∀ j u, xs[j]? = some u → w.cell? ⟨b, o + j, none⟩ = some u)

/-- bytes as cells -/
def U8 (l : List UInt8) : List Value := l.map fun b => .int .u8 b.toNat
theorem U8_len (l : List UInt8) : (U8 l).length = l.length := by simp [U8]
theorem U8_at (l : List UInt8) (k : Nat) (h : k < l.length) : (U8 l)[k]? = some (.int .u8 l[k].toNat) := by simp [U8, h]
theorem U8_app (l m : List UInt8) : U8 (l ++ m) = U8 l ++ U8 m := by simp [U8]
theorem U8_one (l : List UInt8) : ∀ u ∈ U8 l, u.oneCell' = true := by
  intro u hu
  obtain ⟨_, _, rfl⟩ := List.mem_map.1 hu
  rfl

section
variable {w w' : World} {S T : Nat → Prop} {size n : Nat} {v : Value} {xs : List Value}

theorem Rd.nil : Rd w S size (.slice none 0 0) 0 [] :=
  ⟨by simp, none, 0, rfl, Nat.le_refl _, Nat.zero_le _, fun _ => rfl, fun h => absurd h (by omega)⟩

theorem Rd.len (h : Rd w S size v n xs) : xs.length = n * size := h.1

theorem Rd.keep (h : Rd w S size v n xs) (hk : ∀ b, S b → w'.heap[b]? = w.heap[b]?) : Rd w' S size v n xs := by
  obtain ⟨hl, A, c, hv, h1, h2, h3, h4⟩ := h
  refine ⟨hl, A, c, hv, h1, h2, h3, fun hn => ?_⟩
  obtain ⟨b, o, hA, hS, hc⟩ := h4 hn
  exact ⟨b, o, hA, hS, fun j u hu => (World.cell?_of_block (w := w) (a := ⟨b, o + j, none⟩) (hk b hS)).trans (hc j u hu)⟩

theorem Rd.into (h : Rd w S size v n xs) (hk : ∀ b, S b → T b) : Rd w T size v n xs := by
  obtain ⟨hl, A, c, hv, h1, h2, h3, h4⟩ := h
  refine ⟨hl, A, c, hv, h1, h2, h3, fun hn => ?_⟩
  obtain ⟨b, o, hA, hS, hc⟩ := h4 hn
  exact ⟨b, o, hA, hk b hS, hc⟩

theorem Rd.grow {B : Nat} (h : Rd w (· < B) size v n xs) (hg : Below B w w') : Rd w' (· < B) size v n xs := h.keep fun b hb => hg.block b hb

theorem Rd.up {B C : Nat} (h : Rd w (· < B) size v n xs) (hBC : B ≤ C) : Rd w (· < C) size v n xs := h.into fun _ hb => Nat.lt_of_lt_of_le hb hBC

theorem Rd.lt (h : Rd w S size v n xs) (h0 : 0 < size) : Rd w (· < w.heap.size) size v n xs := by
  obtain ⟨hl, A, c, hv, h1, h2, h3, h4⟩ := h
  refine ⟨hl, A, c, hv, h1, h2, h3, fun hn => ?_⟩
  obtain ⟨b, o, hA, _, hc⟩ := h4 hn
  have hx : 0 < xs.length := by rw [hl]; exact Nat.mul_pos hn h0
  exact ⟨b, o, hA, World.block_lt_of_cell? w _ (hc 0 xs[0] (List.getElem?_eq_getElem hx)), hc⟩

theorem Rd.al (h : Rd w S size v n xs) (h0 : 0 < size) (o : Obj) : Rd (w.alloc o) (· < w.heap.size) size v n xs :=
  (h.lt h0).keep fun b hb => Below.heap_alloc w o b hb

theorem Rd.gr (h : Rd w S size v n xs) (h0 : 0 < size) (hg : Grow w w') : Rd w' (· < w.heap.size) size v n xs :=
  (h.lt h0).keep fun b hb => hg.block b hb

theorem Rd.own {base : Nat} {e : TypeId} (h : w.ownsRow base e size v n xs) : Rd w (fun b => some b = v.ownBlock) size v n xs := by
  refine ⟨h.1, ?_⟩
  rcases h.2 with ⟨rfl, rfl⟩ | ⟨g, cap, cur, rfl, hb, hg, hnc, hcm, hcs, htake⟩
  · exact ⟨none, 0, rfl, Nat.le_refl _, Nat.zero_le _, fun _ => rfl, fun h => absurd h (by omega)⟩
  · refine ⟨_, cap, rfl, hnc, hcm, fun h => (nomatch h), fun hn => ⟨g, 0, rfl, rfl, fun j u hu => ?_⟩⟩
    have hj : j < n * size := by rw [← h.1]; exact (List.getElem?_eq_some_iff.1 hu).1
    rw [Nat.zero_add, World.ownsRow.cellAt h j hj]
    exact hu

theorem Rd.own_lt {base : Nat} {e : TypeId} (h : w.ownsRow base e size v n xs) : Rd w (· < w.heap.size) size v n xs :=
  (Rd.own h).into fun b hb => (h.lt b hb.symm).2
end


/-- What the program's table says of a slice type t with elements of type e. -/
structure Elem (P : Program) (t e : TypeId) (z : Value) (size bytes : Nat) : Prop where
  ht : P.underlying t = some (.slice e)
  hi : (P.info? e).map (fun i => (i.zero, i.size, i.bytes)) = some (some z, size, bytes)
  hz : z.cells.size = size
  h0 : 0 < size
  hb : 0 < bytes

section
variable {P : Program} {w : World} {t e : TypeId} {z : Value} {size bytes : Nat}

/-- append onto a row of the call's own, from whatever source. -/
theorem run_app (E : Elem P t e z size bytes) (ty : TypeId) {base : Nat} {v : Value} {n : Nat} {xs : List Value} (hown : w.ownsRow base e size v n xs)
    {S : Nat → Prop} {src : Value} {m : Nat} {news : List Value} (hr : Rd w S size src m news) (h1 : ∀ u ∈ news, u.oneCell' = true)
    (hn : (n + m) * bytes ≤ 140737488355328) (hbase : base ≤ w.heap.size) :
    ∃ v' w', (Builtin.append_ #[t, t] ty #[v, src]).run P w = .ok v' w' ∧ w'.ownsRow base e size v' (n + m) (xs ++ news) ∧ w.grownBy w' v.ownBlock ∧ (v'.ownBlock = v.ownBlock ∨ v'.ownBlock = some w.heap.size) := by
  obtain ⟨i, hi, hz0, hz1, hz2⟩ := info_parts E.hi
  have h63 : n + m ≤ maxLen := by
    have := Nat.le_trans (Nat.le_mul_of_pos_right (n + m) E.hb) hn
    simp only [maxLen]
    omega
  obtain ⟨hl, A, c, rfl, h2, h3, h4, h5⟩ := hr
  rcases A with _ | ad
  · have hc := h4 rfl
    subst hc
    obtain rfl : m = 0 := by omega
    have hnil : news = [] := List.eq_nil_of_length_eq_zero (by simpa using hl)
    subst hnil
    exact ⟨v, w, run_append_owned_none (P := P) w base t ty e i size E.ht hi v n xs hown, by simpa using hown, World.grownBy.refl w _, .inl rfl⟩
  · have hcells : ∀ j u, news[j]? = some u → w.cell? (ad.add j) = some u := by
      intro j u hu
      rcases Nat.eq_zero_or_pos m with h0 | h0
      · subst h0
        have hnil : news = [] := List.eq_nil_of_length_eq_zero (by simpa using hl)
        subst hnil
        simp at hu
      · obtain ⟨b, o, ha, _, hc⟩ := h5 h0
        injection ha with ha
        subst ha
        rw [Addr.add_lit]
        exact hc j u hu
    obtain ⟨v', w', hrun, k2, k3, _, k5⟩ := run_append_own_at (P := P) w base t ty e i z size bytes E.ht hi hz0 hz1 hz2 E.hz E.h0 v n xs hown ad m c news hl hcells h1 h63 hn hbase
    exact ⟨v', w', hrun, k2, k3, k5⟩

theorem wpList_app {ops : Array Oper} {rest : List Oper} {o : Oper} {a : Act} {Q : Exit → Act → World → Prop} (hgd : o.guard = none) (s x : Operand)
    (ho : o.op = .call { callee := .builtin .append, args := #[s, x], argTypes := #[t, t] })
    (E : Elem P t e z size bytes) {base : Nat} {v : Value} {n : Nat} {xs : List Value} (hown : w.ownsRow base e size v n xs) (hs : a.eval s = v)
    {S : Nat → Prop} {src : Value} {m : Nat} {news : List Value} (hr : Rd w S size src m news) (hx : a.eval x = src) (h1 : ∀ u ∈ news, u.oneCell' = true)
    (hn : (n + m) * bytes ≤ 140737488355328) (hbase : base ≤ w.heap.size)
    (h : ∀ v' w', w'.ownsRow base e size v' (n + m) (xs ++ news) → w.grownBy w' v.ownBlock → (v'.ownBlock = v.ownBlock ∨ v'.ownBlock = some w.heap.size) → wpList P ops Q rest (a.put o.dst v') w') : wpList P ops Q (o :: rest) a w := by
  refine wpList_plain hgd fun K hK => ?_
  obtain ⟨v', w', hrun, h2, h3, h4⟩ := run_app E o.type hown hr h1 hn hbase
  unfold Oper.wp execOp
  simp only [ho, resolve, invoke, builtin, Sem.run_bind, Sem.run_pure, Result.andThen_ok, List.map_toArray, List.map_cons, List.map_nil, hs, hx, hrun]
  exact hK _ _ (h v' w' h2 h3 h4)

theorem step_app {ops : Array Oper} {o : Oper} {a : Act} {K : Act → World → Prop} {Q : Exit → Act → World → Prop} {F : Prop} (hgd : o.guard = none) (s x : Operand)
    (ho : o.op = .call { callee := .builtin .append, args := #[s, x], argTypes := #[t, t] })
    (E : Elem P t e z size bytes) {base : Nat} {v : Value} {n : Nat} {xs : List Value} (hown : w.ownsRow base e size v n xs) (hs : a.eval s = v)
    {S : Nat → Prop} {src : Value} {m : Nat} {news : List Value} (hr : Rd w S size src m news) (hx : a.eval x = src) (h1 : ∀ u ∈ news, u.oneCell' = true)
    (hn : (n + m) * bytes ≤ 140737488355328) (hbase : base ≤ w.heap.size)
    (h : ∀ v' w', w'.ownsRow base e size v' (n + m) (xs ++ news) → w.grownBy w' v.ownBlock → (v'.ownBlock = v.ownBlock ∨ v'.ownBlock = some w.heap.size) → K (a.put o.dst v') w') :
    if Region.wanted o (yielded ops a.tmps) = true then Oper.wp P o a w K Q else F := by
  rw [if_pos (by simp [Region.wanted, hgd])]
  obtain ⟨v', w', hrun, h2, h3, h4⟩ := run_app E o.type hown hr h1 hn hbase
  unfold Oper.wp execOp
  simp only [ho, resolve, invoke, builtin, Sem.run_bind, Sem.run_pure, Result.andThen_ok, List.map_toArray, List.map_cons, List.map_nil, hs, hx, hrun]
  exact h v' w' h2 h3 h4

/-- A row that has just been laid. -/
theorem Rd.lit (w : World) (cs : Array Value) (e : TypeId) (n : Nat) (hm : n ≤ maxLen) (hs : cs.size = n * size) : Rd (w.alloc (.cells cs e)) (fun b => b = w.heap.size) size (.slice (some ⟨w.heap.size, 0, none⟩) n n) n cs.toList := by
  have h := Rd.own (World.ownsRow_lit (base := w.heap.size) (e := e) w cs n (Nat.le_refl _) hm hs)
  exact h.into fun b hb => by simpa [Value.ownBlock] using hb

/-- What grew by an append: every block but the row's is as it was; so is the world below the row's base. -/
theorem grow_app {w0 w' : World} {row : Option Nat} (h : Grow w0 w) (hg : w.grownBy w' row) (hr : ∀ k, row = some k → w0.heap.size ≤ k) : Grow w0 w' := Below.grown h hg h.size hr
theorem own_ge {base : Nat} {v : Value} {n : Nat} {xs : List Value} (h : w.ownsRow base e size v n xs) : ∀ k, v.ownBlock = some k → base ≤ k := fun k hk => (h.lt k hk).1

theorem grow_of_alloc {w w' : World} {o : Obj} {row : Option Nat} (h : (w.alloc o).grownBy w' row) : w.grownBy w' row :=
  (World.grownBy_alloc w o row).trans h

/-- append of m new elements, which the translation has just laid in a block of their own. -/
theorem wpList_new {w0 : World} {ops : Array Oper} {rest : List Oper} {o : Oper} {a : Act} {Q : Exit → Act → World → Prop} (hgd : o.guard = none) (s x : Operand)
    (ho : o.op = .call { callee := .builtin .append, args := #[s, x], argTypes := #[t, t] })
    (E : Elem P t e z size bytes) {base : Nat} {v : Value} {n : Nat} {xs : List Value} (hown : w.ownsRow base e size v n xs) (hs : a.eval s = v)
    (m : Nat) (cs : Array Value) (hx : a.eval x = .slice (some ⟨w.heap.size, 0, none⟩) m m) (hm : m ≤ 16) (hcs : cs.size = m * size) (h1 : ∀ u ∈ cs.toList, u.oneCell' = true)
    (hn : (n + m) * bytes ≤ 140737488355328) (hg : Grow w0 w) (hbase : w0.heap.size ≤ base ∧ base ≤ w.heap.size)
    (h : ∀ v' w', w'.ownsRow base e size v' (n + m) (xs ++ cs.toList) → Grow w0 w' → w.grownBy w' v.ownBlock → (v'.ownBlock = v.ownBlock ∨ v'.ownBlock = some (w.heap.size + 1)) → wpList P ops Q rest (a.put o.dst v') w') :
    wpList P ops Q (o :: rest) a (w.alloc (.cells cs e)) := by
  refine wpList_app hgd s x ho E (hown.alloc _) hs (Rd.lit w cs e m (by simp only [maxLen]; omega) hcs) hx h1 hn (by rw [World.size_alloc]; omega) fun v' w' k1 k2 k3 => ?_
  refine h v' w' k1 (grow_app (hg.al _) k2 fun k hk => ?_) (grow_of_alloc k2) (by rw [World.size_alloc] at k3; exact k3)
  have := (hown.lt k hk).1
  omega
end

/-- 'string(b)' -/
theorem run_str {P : Program} {w : World} {S : Nat → Prop} {v : Value} {l : List UInt8} (src dst e : TypeId) (hs : P.underlying src = some (.slice e)) (he : P.underlying e = some (.int .u8)) (hd : P.underlying dst = some .string)
    (h : Rd w S 1 v l.length (U8 l)) : (convert src dst v).run P w = .ok (.string ⟨l.toArray⟩) w := by
  obtain ⟨hl, A, c, rfl, h2, h3, h4, h5⟩ := h
  rcases A with _ | a
  · have hc := h4 rfl
    subst hc
    obtain rfl : l = [] := List.eq_nil_of_length_eq_zero (by omega)
    exact run_convert_bytes_nil w src e hs he 0 0 dst hd
  · refine run_convert_bytes_back w src dst e a c l hs he hd fun j hj => ?_
    obtain ⟨b, o, ha, _, hc⟩ := h5 (by omega)
    injection ha with ha
    subst ha
    rw [Addr.add_lit]
    exact hc j _ (U8_at l j hj)

theorem own_grow {w w' : World} {b e s n : Nat} {v : Value} {xs : List Value} (h : w.ownsRow b e s v n xs) (hg : Grow w w') : w'.ownsRow b e s v n xs :=
  h.kept (row := none) ⟨hg.os, hg.tape, hg.output, hg.size, fun k hk _ => hg.block k hk⟩ (by cases hv : v.ownBlock <;> simp)
theorem own_eq {w : World} {b e s n m : Nat} {v : Value} {xs ys : List Value} (h : w.ownsRow b e s v n xs) (hn : n = m) (hx : xs = ys) : w.ownsRow b e s v m ys := by subst hn hx; exact h
theorem own_base {w : World} {b b' e s n : Nat} {v : Value} {xs : List Value} (h : w.ownsRow b e s v n xs) (hb : b' ≤ b) : w.ownsRow b' e s v n xs := by
  refine ⟨h.1, ?_⟩
  rcases h.2 with hn | ⟨g, cap, cur, h1, h2, h3⟩
  · exact .inl hn
  · exact .inr ⟨g, cap, cur, h1, Nat.le_trans hb h2, h3⟩
theorem at_ {R : Ending → World → Prop} {e e' : Ending} {w : World} (hR : R e' w) (h : e = e') : R e w := h ▸ hR
theorem ret1 {a a' : Int} {k : IntKind} (h : a = a') : Ending.returned (.int k a) = Ending.returned (.int k a') := by rw [h]
theorem retb {a a' : Bool} (h : a = a') : Ending.returned (.bool a) = Ending.returned (.bool a') := by rw [h]
def I64 (n : Int) : Prop := -9223372036854775808 ≤ n ∧ n ≤ 9223372036854775807
def U64 (n : Int) : Prop := 0 ≤ n ∧ n ≤ 18446744073709551615

/-- rows of elements of 'size' cells: the cells one behind the other -/
theorem flat_len {α : Type} (g : α → List Value) (size : Nat) (hg : ∀ a, (g a).length = size) : ∀ l : List α, (l.flatMap g).length = l.length * size
  | [] => by simp
  | a :: l => by
    rw [List.flatMap_cons, List.length_append, hg, flat_len g size hg l, List.length_cons, Nat.add_mul]
    omega
theorem flat_at {α : Type} (g : α → List Value) (size : Nat) (hg : ∀ a, (g a).length = size) : ∀ (l : List α) (i j : Nat) (hi : i < l.length), j < size → (l.flatMap g)[i * size + j]? = (g l[i])[j]?
  | [], i, j, hi, _ => by simp at hi
  | a :: l, 0, j, _, hj => by
    rw [List.flatMap_cons, Nat.zero_mul, Nat.zero_add, List.getElem?_append_left (by rw [hg]; exact hj)]
    rfl
  | a :: l, i + 1, j, hi, hj => by
    rw [List.flatMap_cons, List.getElem?_append_right (by rw [hg, Nat.add_mul]; omega), hg]
    have e : (i + 1) * size + j - size = i * size + j := by rw [Nat.add_mul]; omega
    rw [e, flat_at g size hg l i j (by simpa using hi) hj]
    rfl

/-- the cells of element i, in a later world -/
theorem flat_cells {α : Type} {g : α → List Value} {size : Nat} (hg : ∀ a, (g a).length = size) {l : List α} {w wr : World} {b o : Nat} (hw : Grow w wr) (hb : b < w.heap.size)
    (hc : ∀ j u, (l.flatMap g)[j]? = some u → w.cell? ⟨b, o + j, none⟩ = some u) {i : Nat} (hi : i < l.length) : ∀ j u, (g l[i])[j]? = some u → wr.cell? ⟨b, o + i * size + j, none⟩ = some u := by
  intro j u hu
  have hj : j < size := by rw [← hg l[i]]; exact (List.getElem?_eq_some_iff.1 hu).1
  rw [Nat.add_assoc]
  exact (hw.cell (p := ⟨b, o + (i * size + j), none⟩) hb).trans (hc _ _ (by rw [flat_at g size hg l i j hi hj]; exact hu))

/-- a box that was laid, in a later world -/
theorem box_at {w w1 : World} {cs : Array Value} {t : TypeId} (hg : Grow (w.alloc (.cells cs t)) w1) (j : Nat) : w1.cell? ⟨w.heap.size, j, none⟩ = cs[j]? := by
  have h := (hg.block w.heap.size (by rw [World.size_alloc]; omega)).trans (heap_alloc_new w _)
  exact cell_of_row w1 w.heap.size j cs t (0, 0) h
theorem box_free {w w1 : World} {cs : Array Value} {t : TypeId} (hg : Grow (w.alloc (.cells cs t)) w1) (j : Nat) : w1.frozen? ⟨w.heap.size, j, none⟩ = false := by
  have h := (hg.block w.heap.size (by rw [World.size_alloc]; omega)).trans (heap_alloc_new w _)
  exact frozen_of_row w1 w.heap.size j cs t h
theorem grow_al {w w1 : World} {o : Obj} (hg : Grow (w.alloc o) w1) : Grow w w1 := ((Grow.refl w).al o).tr hg

/-- a row that was laid (its spare may be marked), in a later world -/
theorem Rd.laid {w w1 : World} {size : Nat} (cs : Array Value) (e : TypeId) (fr : Nat × Nat) (n : Nat) (hm : n ≤ maxLen) (hs : cs.size = n * size) (hg : Grow (w.alloc (.cells cs e fr)) w1) :
    Rd w1 (fun b => b = w.heap.size) size (.slice (some ⟨w.heap.size, 0, none⟩) n n) n cs.toList := by
  refine ⟨by simpa using hs, _, n, rfl, Nat.le_refl _, hm, fun h => (nomatch h), fun _ => ⟨w.heap.size, 0, rfl, rfl, fun j u hu => ?_⟩⟩
  have h := (hg.block w.heap.size (by rw [World.size_alloc]; omega)).trans (heap_alloc_new w _)
  rw [Nat.zero_add, cell_of_row w1 w.heap.size j cs e fr h]
  simpa using hu

theorem str_add (a b : List UInt8) : (ByteArray.mk a.toArray ++ ByteArray.mk b.toArray) = ByteArray.mk (a ++ b).toArray := ByteArray.mk_append_mk a b

/-- What is read stays read while another row grows. -/
theorem Rd.by_ {w w' : World} {S : Nat → Prop} {size n : Nat} {v : Value} {xs : List Value} {row : Option Nat} (h : Rd w S size v n xs) (h0 : 0 < size) (hg : w.grownBy w' row) (hS : ∀ b, S b → some b ≠ row) : Rd w' S size v n xs := by
  have hl := h.lt h0
  obtain ⟨hl, A, c, hv, h1, h2, h3, h4⟩ := h
  refine ⟨hl, A, c, hv, h1, h2, h3, fun hn => ?_⟩
  obtain ⟨b, o, hA, hSb, hc⟩ := h4 hn
  refine ⟨b, o, hA, hSb, fun j u hu => ?_⟩
  have hlt := World.block_lt_of_cell? w _ (hc j u hu)
  exact (World.cell?_of_block (w := w) (a := ⟨b, o + j, none⟩) (hg.block b hlt (hS b hSb))).trans (hc j u hu)

theorem Rd.own_from {w : World} {base e size n : Nat} {v : Value} {xs : List Value} (h : w.ownsRow base e size v n xs) : Rd w (fun b => base ≤ b) size v n xs :=
  (Rd.own h).into fun b hb => (h.lt b hb.symm).1

theorem Rd.gr2 {w w' : World} {S : Nat → Prop} {size n : Nat} {v : Value} {xs : List Value} (h : Rd w S size v n xs) (h0 : 0 < size) (hg : Grow w w') : Rd w' S size v n xs :=
  h.by_ (row := none) h0 ⟨hg.os, hg.tape, hg.output, hg.size, fun k hk _ => hg.block k hk⟩ fun _ _ => by simp

end Go.Proofs.Ytjcgkhcbdbbdkaa
