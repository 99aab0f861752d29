/-
  The moves of a region that draws its order, one by one, where two operations that make memory may come up at once. No program is named here.       
-/
import Derived.Test.YtfdjdfobhkmlpaaCore
import Derived.Test.YtfdjdfobhkmlpaaWindA
import Derived.Test.YtfdjdfobhkmlpaaNorm
import Derived.Test.YtfdjdfobhkmlpaaRowsA
namespace Go.Proofs.Ytfdjdfobhkmlpaa.B
open Go.RowKit
section
variable {P : Program} {Q : Exit → Act → World → Prop} {S : World → Prop} {l : List Oper}

/-- the panic's way out does not look at what was put -/
def PanOk (Q : Exit → Act → World → Prop) : Prop := ∀ (c : List PanicEntry) (a : Act) (d : Option Tmp) (v : Value) (w : World), Q (.panic c) (a.put d v) w → Q (.panic c) a w

def takeOk (l : List Oper) (listed : Array Bool) (i : Nat) : Bool := Region.noSelect l.toArray && Region.free .any l.toArray listed i && (Region.ready .any l.toArray listed).contains i

/-- the walk of a region from some point on, with what it needs -/
structure HeldW (P : Program) (l : List Oper) (Q : Exit → Act → World → Prop) (S : World → Prop) (f : Nat) (listed : Array Bool) (a : Act) (w : World) : Prop where
  pan : PanOk Q
  here : S w
  walk : wpAnyH P .any l.toArray Q S f listed a w

theorem held_take {i : Nat} {o : Oper} {v : Value} {f : Nat} {listed : Array Bool} {a : Act} {w : World} (ho : nthO l i = some o) (hw : Region.wanted o (yielded l.toArray a.tmps) = true) (hok : takeOk l listed i = true)
    (hy : ∀ W, S W → (execOp a.eval o).run P W = .ok (.value v) W) (h : HeldW P l Q S f (listed.setIfInBounds i true) (a.put o.dst v) w) : HeldW P l Q S (f + 1) listed a w := by
  simp only [takeOk, Bool.and_eq_true] at hok
  exact ⟨h.pan, h.here, wpAnyH_take ((nthO_eq l i).trans ho) hok.1.1 hok.1.2 hok.2 (fun c a w => h.pan c a o.dst v w) (.inl ⟨hw, hy⟩) h.here h.walk⟩

theorem held_turn {i : Nat} {o : Oper} {f : Nat} {listed : Array Bool} {a : Act} {w : World} (ho : nthO l i = some o) (hw : Region.wanted o (yielded l.toArray a.tmps) = true)
    (h : ∀ K' : Act → World → Prop, Shut (∀ a' w', HeldW P l Q S f (listed.setIfInBounds i true) a' w' → K' a' w') → Oper.wp P o a w K' Q) :
    wpOp P l.toArray Q i (fun a' w' => S w' ∧ wpAnyH P .any l.toArray Q S f (listed.setIfInBounds i true) a' w') a w :=
  wpOp_step ((nthO_eq l i).trans ho) fun K' hK => by
    rw [if_pos hw]
    exact h K' fun a' w' hh => hK a' w' ⟨hh.here, hh.walk⟩

/-- these alone may come up -/
theorem held_all {rs : List Nat} {f : Nat} {listed : Array Bool} {a : Act} {w : World} (hp : PanOk Q) (hS : S w) (hr : Region.ready .any l.toArray listed = rs) (hne : rs.isEmpty = false)
    (h : ∀ i ∈ rs, wpOp P l.toArray Q i (fun a' w' => S w' ∧ wpAnyH P .any l.toArray Q S f (listed.setIfInBounds i true) a' w') a w) : HeldW P l Q S (f + 1) listed a w :=
  ⟨hp, hS, wpAnyH_all hr (by rintro rfl; simp at hne) h⟩

theorem held_done {listed : Array Bool} {a : Act} {w : World} {f : Nat} (hp : PanOk Q) (hS : S w) (hr : Region.ready .any l.toArray listed = []) (h : Q .normal a w) : HeldW P l Q S f listed a w :=
  ⟨hp, hS, wpAnyH_done hr h f⟩

theorem wp_region_heldW {id : Nat} {a : Act} {w : World} (S : World → Prop) (hm : P.follows .mixedOrders = true) (n : Nat) (hn : l.length = n) (h : HeldW P l Q S n (Array.replicate n false) a w.drew) : (Code.region id l.toArray true).wp P Q a w := by
  subst hn
  exact wp_region_held hm (by simpa using h.walk)
end
end Go.Proofs.Ytfdjdfobhkmlpaa.B

namespace Go.Proofs.Ytfdjdfobhkmlpaa
open Go.RowKit B

def sgnI (n : Int) : Int := if n < 0 then -1 else if 0 < n then 1 else 0
def cmpI (a b : Int) : Int := if a < b then -1 else if b < a then 1 else 0

set_option maxRecDepth 100000 in
set_option maxHeartbeats 1000000 in
theorem cmpInt_any (a b : Int) (w : World) {R : Ending → World → Prop} (hR : R (.returned (.int .i64 (cmpI a b))) w) :
    Calls Try.prog 33 #[.int .i64 a, .int .i64 b] w R := by
  have HR1 : ∀ n, cmpI a b = n → R (.returned (.int .i64 n)) w := by rintro n rfl; exact hR
  have HR := Lib.hid HR1
  clear hR HR1
  by_cases h1 : a < b
  · go_enter Try.func33, Try.ntmps33
    go_wp2
    exact HR.out _ (by unfold cmpI; rw [if_pos h1])
  · by_cases h2 : b < a
    · go_enter Try.func33, Try.ntmps33
      go_wp2
      exact HR.out _ (by unfold cmpI; rw [if_neg (by omega), if_pos h2])
    · go_enter Try.func33, Try.ntmps33
      go_wp2
      exact HR.out _ (by unfold cmpI; rw [if_neg (by omega), if_neg (by omega)])
theorem cmpI_zero (n : Int) : cmpI n 0 = sgnI n := rfl

def areaV (l : List Pt) : Int := if rightL l = true then areaOf l else 0

set_option maxRecDepth 100000 in
set_option maxHeartbeats 1000000 in
theorem wsign_any (l : List Pt) (v : Value) (S : Nat → Prop) (w : World) (hb : Rd w S 2 v l.length (Pts l)) {R : Ending → World → Prop}
    (hR : ∀ w', Grow w w' → R (.returned (.int .i64 (sgnI (areaV l)))) w') :
    Calls Try.prog 20 #[v] w R := by
  have HR := Lib.hid hR
  have HA := Lib.hid fun (R : Ending → World → Prop) hR => area_any l v S w hb (R := R) hR
  have HC := Lib.hid fun W (R : Ending → World → Prop) hR => cmpInt_any (areaV l) 0 W (R := R) hR
  rw [cmpI_zero] at HC
  change Hid (∀ (R : Ending → World → Prop), (∀ w', Grow w w' → R (.returned (.tuple #[.int .i64 (areaV l), .bool (rightL l)])) w') → Calls Try.prog 32 #[v] w R) at HA
  clear hR hb
  generalize sgnI (areaV l) = s at *
  generalize areaV l = n at *
  generalize rightL l = b at *
  go_enter Try.func20, Try.ntmps20
  go_wp2_with fail
  refine HA.out _ ?_
  intro w1 hg1
  go_wp2_with fail
  refine HC.out _ _ ?_
  go_wp2
  exact HR.out _ hg1

/-- what the reference adds up: as far as place k -/
def sumA (l : List Pt) (k : Nat) : Int := areaS ((edgesL l).take k)
def sumP (f : Pt × Pt → Int) : List (Pt × Pt) → Int
  | [] => 0
  | x :: l => f x + sumP f l
theorem sumP_snoc (f : Pt × Pt → Int) (l : List (Pt × Pt)) (x : Pt × Pt) : sumP f (l ++ [x]) = sumP f l + f x := by
  induction l with
  | nil => simp [sumP]
  | cons y l ih => simp only [List.cons_append, sumP, ih]; omega
theorem areaS_split (l : List (Pt × Pt)) : areaS l = sumP (fun x => x.1.x * x.2.y) l - sumP (fun x => x.2.x * x.1.y) l := by
  induction l with
  | nil => rfl
  | cons x l ih => simp only [areaS, sumP, crossT, ih]; omega
theorem sumP_bd (f : Pt × Pt → Int) : ∀ l : List (Pt × Pt), (∀ x ∈ l, -4398046511104 ≤ f x ∧ f x ≤ 4398046511104) → -(4398046511104 * (l.length : Int)) ≤ sumP f l ∧ sumP f l ≤ 4398046511104 * (l.length : Int)
  | [], _ => by simp [sumP]
  | x :: l, h => by
    have ih := sumP_bd f l (fun y hy => h y (List.mem_cons_of_mem _ hy))
    have hx := h x (List.mem_cons_self ..)
    simp only [sumP, List.length_cons]
    generalize sumP f l = s at *
    omega
theorem edgesL_in {l : List Pt} (h : ∀ p ∈ l, (-2097152 ≤ p.x ∧ p.x ≤ 2097152) ∧ -2097152 ≤ p.y ∧ p.y ≤ 2097152) : ∀ x ∈ edgesL l, ((-2097152 ≤ x.1.x ∧ x.1.x ≤ 2097152) ∧ -2097152 ≤ x.1.y ∧ x.1.y ≤ 2097152) ∧ (-2097152 ≤ x.2.x ∧ x.2.x ≤ 2097152) ∧ -2097152 ≤ x.2.y ∧ x.2.y ≤ 2097152 := by
  intro x hx
  obtain ⟨i, hi, rfl⟩ := List.getElem_of_mem hx
  rw [edgesL_len] at hi
  rw [edgesL_at hi]
  exact ⟨h _ (List.getElem_mem hi), h _ (List.getElem_mem (Nat.mod_lt (i + 1) (show 0 < l.length by omega)))⟩

end Go.Proofs.Ytfdjdfobhkmlpaa

namespace Go.Proofs.Ytfdjdfobhkmlpaa
open Go.RowKit B

def sideI (a b p : Pt) : Int := (b.x - a.x) * (p.y - a.y) - (b.y - a.y) * (p.x - a.x)
def onB (a b p : Pt) : Bool := decide (min a.x b.x ≤ p.x) && decide (p.x ≤ max a.x b.x) && decide (min a.y b.y ≤ p.y) && decide (p.y ≤ max a.y b.y)

theorem mul_bd2 {a b : Int} (ha : -4194304 ≤ a ∧ a ≤ 4194304) (hb : -4194304 ≤ b ∧ b ≤ 4194304) : -17592186044416 ≤ a * b ∧ a * b ≤ 17592186044416 := by
  have h1 : a.natAbs ≤ 4194304 := by omega
  have h2 : b.natAbs ≤ 4194304 := by omega
  have h3 : (a * b).natAbs ≤ 4194304 * 4194304 := by rw [Int.natAbs_mul]; exact Nat.mul_le_mul h1 h2
  omega

/-- does the way from a to b touch p? -/
def touch (p : Pt) (x : Pt × Pt) : Bool := decide (sideI x.1 x.2 p = 0) && onB x.1 x.2 p
def upB (p : Pt) (x : Pt × Pt) : Bool := decide (x.1.y ≤ p.y) && decide (p.y < x.2.y) && decide (0 < sideI x.1 x.2 p)
def dnB (p : Pt) (x : Pt × Pt) : Bool := decide (p.y < x.1.y) && decide (x.2.y ≤ p.y) && decide (sideI x.1 x.2 p < 0)
def delta (p : Pt) (x : Pt × Pt) : Int := if upB p x = true then 1 else if dnB p x = true then -1 else 0
theorem delta_bd (p : Pt) (x : Pt × Pt) : -1 ≤ delta p x ∧ delta p x ≤ 1 := by unfold delta; split <;> (try split) <;> omega
theorem sumP_bd1 (f : Pt × Pt → Int) (h : ∀ x, -1 ≤ f x ∧ f x ≤ 1) : ∀ l : List (Pt × Pt), -(l.length : Int) ≤ sumP f l ∧ sumP f l ≤ l.length
  | [] => by simp [sumP]
  | x :: l => by
    have ih := sumP_bd1 f h l
    have hx := h x
    simp only [sumP, List.length_cons]
    generalize sumP f l = s at *
    omega
/-- the answer of Around -/
def arN (l : List Pt) (p : Pt) : Int := if (rightL l && p.inr) = true then (if (edgesL l).any (touch p) = true then 0 else sumP (delta p) (edgesL l)) else 0
def arB (l : List Pt) (p : Pt) : Bool := (rightL l && p.inr) && !(edgesL l).any (touch p)
end Go.Proofs.Ytfdjdfobhkmlpaa

namespace Go.Proofs.Ytfdjdfobhkmlpaa
open Go.RowKit Go.Shelf
attribute [local go_sem] Oper.semAt_some

theorem grow_keeps {B : Nat} {W W' : World} (hg : Grow W W') : KeepsFrom B W W' :=
  KeepsFrom.of_grownBy (row := none) ⟨hg.os, hg.tape, hg.output, hg.size, fun k hk _ => hg.block k hk⟩ (fun j e => by cases e)
theorem grow_kpE {n₀ Bn : Nat} {W W' : World} (hg : Grow W W') (hn : n₀ ≤ W.heap.size) (hB : Bn < W.heap.size) : KpE n₀ Bn W W' := ⟨hg.mono hn, hg.block Bn hB⟩
theorem grow_blkA {W W' : World} (hg : Grow W W') {B : Nat} {o : Obj} (h : W.heap[B]? = some o) : W'.heap[B]? = some o := (hg.block B (lt_of_block h)).trans h
theorem touch_side {p : Pt} {x : Pt × Pt} (h : touch p x = true) : sideI x.1 x.2 p = 0 := by
  simp only [touch, Bool.and_eq_true, decide_eq_true_eq] at h; exact h.1

theorem al3 (w : World) (o1 o2 o3 : Obj) : (((w.alloc o1).alloc o2).alloc o3).heap[w.heap.size]? = some o1 ∧ (((w.alloc o1).alloc o2).alloc o3).heap[w.heap.size + 1]? = some o2 ∧ (((w.alloc o1).alloc o2).alloc o3).heap[w.heap.size + 2]? = some o3 := by
  refine ⟨blk_alA (blk_alA (heap_alloc_new _ _) _) _, blk_alA ?_ _, ?_⟩
  · have := heap_alloc_new (w.alloc o1) o2
    rw [World.size_alloc] at this
    exact this
  · have := heap_alloc_new ((w.alloc o1).alloc o2) o3
    rw [World.size_alloc, World.size_alloc] at this
    exact this

/-- what a round of Around keeps -/
def AroI (p : Pt) (w : World) (n0 : Nat) (pre : List PP) (W : World) : Prop :=
  (∀ x ∈ pre, touch p x.1 = false) ∧ W.heap[w.heap.size + 1]? = some (.cells #[.int .i64 (sumP (delta p) (pre.map (fun x : PP => x.1)))] 3 (0, 0)) ∧ W.heap[w.heap.size]? = some (.cells p.cells.toArray 36 (0, 0)) ∧
  W.heap[w.heap.size + 2]? = some (.cells #[.bool false] 4 (0, 0)) ∧ Below w.heap.size w W ∧ n0 ≤ W.heap.size
def AroX (p : Pt) (w : World) (c : Code) (pre : List PP) (W : World) : Prop :=
  c = .ret ∧ (∃ x ∈ pre, touch p x.1 = true) ∧ W.heap[w.heap.size + 1]? = some (.cells #[.int .i64 0] 3 (0, 0)) ∧
  W.heap[w.heap.size + 2]? = some (.cells #[.bool false] 4 (0, 0)) ∧ Below w.heap.size w W

end Go.Proofs.Ytfdjdfobhkmlpaa

namespace Go.Proofs.Ytfdjdfobhkmlpaa
open Go.RowKit B

theorem btw_mul (a b p : Int) : decide ((p - a) * (p - b) ≤ 0) = (decide (min a b ≤ p) && decide (p ≤ max a b)) := by
  rw [Bool.eq_iff_iff]
  simp only [decide_eq_true_eq, Bool.and_eq_true]
  constructor
  · intro h
    refine ⟨?_, ?_⟩
    · rcases Int.lt_or_le p (min a b) with h1 | h1
      · have := Int.mul_pos_of_neg_of_neg (show p - a < 0 by omega) (show p - b < 0 by omega)
        omega
      · exact h1
    · rcases Int.lt_or_le (max a b) p with h1 | h1
      · have := Int.mul_pos (show 0 < p - a by omega) (show 0 < p - b by omega)
        omega
      · exact h1
  · rintro ⟨h1, h2⟩
    rcases Int.le_total a b with h | h
    · have := Int.mul_nonneg (show 0 ≤ p - a by omega) (show 0 ≤ b - p by omega)
      have e : (p - a) * (p - b) = -((p - a) * (b - p)) := by rw [← Int.mul_neg, Int.neg_sub]
      omega
    · have := Int.mul_nonneg (show 0 ≤ a - p by omega) (show 0 ≤ p - b by omega)
      have e : (p - a) * (p - b) = -((a - p) * (p - b)) := by rw [← Int.neg_mul, Int.neg_sub]
      omega
theorem onB_mul (a b p : Pt) : onB a b p = (decide ((p.x - a.x) * (p.x - b.x) ≤ 0) && decide ((p.y - a.y) * (p.y - b.y) ≤ 0)) := by
  rw [btw_mul, btw_mul, onB]
  simp only [Bool.and_assoc]
theorem area_three (a b p : Pt) (ha : a.inr = true) (hb : b.inr = true) (hp : p.inr = true) : rightL [a, b, p] = true ∧ areaV [a, b, p] = sideI a b p := by
  have h1 : rightL [a, b, p] = true := by simp [rightL, ha, hb, hp]
  refine ⟨h1, ?_⟩
  rw [areaV, if_pos h1]
  have : edgesL [a, b, p] = [(a, b), (b, p), (p, a)] := by simp [edgesL, List.range, List.range.loop]
  rw [areaOf, this]
  simp only [areaS, crossT, sideI]
  grind

end Go.Proofs.Ytfdjdfobhkmlpaa

namespace Go.Proofs.Ytfdjdfobhkmlpaa
open Go.RowKit B

theorem delta_left {p : Pt} {x : Pt × Pt} (h1 : x.1.x < p.x) (h2 : x.2.x < p.x) : delta p x = 0 := by
  obtain ⟨⟨a1, a2⟩, ⟨b1, b2⟩⟩ := x
  obtain ⟨p1, p2⟩ := p
  dsimp only at h1 h2
  have e : sideI ⟨a1, a2⟩ ⟨b1, b2⟩ ⟨p1, p2⟩ = -((p1 - b1) * (p2 - a2)) - (p1 - a1) * (b2 - p2) := by
    simp only [sideI]; grind
  unfold delta upB dnB
  rw [e]
  dsimp only
  split
  · rename_i h
    simp only [Bool.and_eq_true, decide_eq_true_eq] at h
    have m1 := Int.mul_nonneg (show 0 ≤ p1 - b1 by omega) (show 0 ≤ p2 - a2 by omega)
    have m2 := Int.mul_nonneg (show 0 ≤ p1 - a1 by omega) (show 0 ≤ b2 - p2 by omega)
    omega
  · split
    · rename_i h
      simp only [Bool.and_eq_true, decide_eq_true_eq] at h
      have m1 := Int.mul_nonneg (show 0 ≤ p1 - b1 by omega) (show 0 ≤ a2 - p2 by omega)
      have m2 := Int.mul_nonneg (show 0 ≤ p1 - a1 by omega) (show 0 ≤ p2 - b2 by omega)
      have e1 : (p1 - b1) * (p2 - a2) = -((p1 - b1) * (a2 - p2)) := by rw [← Int.mul_neg, Int.neg_sub]
      have e2 : (p1 - a1) * (b2 - p2) = -((p1 - a1) * (p2 - b2)) := by rw [← Int.mul_neg, Int.neg_sub]
      omega
    · rfl
theorem sumP_zero (f : Pt × Pt → Int) : ∀ l : List (Pt × Pt), (∀ x ∈ l, f x = 0) → sumP f l = 0
  | [], _ => rfl
  | x :: l, h => by
    have := sumP_zero f l (fun y hy => h y (List.mem_cons_of_mem _ hy))
    have := h x (List.mem_cons_self ..)
    simp only [sumP]; omega
theorem edgesL_mem {l : List Pt} {x : Pt × Pt} (hx : x ∈ edgesL l) : x.1 ∈ l ∧ x.2 ∈ l := by
  obtain ⟨i, hi, rfl⟩ := List.getElem_of_mem hx
  rw [edgesL_len] at hi
  rw [edgesL_at hi]
  exact ⟨List.getElem_mem hi, List.getElem_mem (Nat.mod_lt (i + 1) (show 0 < l.length by omega))⟩
theorem arN_left {l : List Pt} {p : Pt} (h : l.all (fun q => decide (q.x < p.x)) = true) : arN l p = 0 := by
  simp only [List.all_eq_true, decide_eq_true_eq] at h
  unfold arN
  split
  · split
    · rfl
    · exact sumP_zero _ _ fun x hx => delta_left (h _ (edgesL_mem hx).1) (h _ (edgesL_mem hx).2)
  · rfl

end Go.Proofs.Ytfdjdfobhkmlpaa

namespace Go.Proofs.Ytfdjdfobhkmlpaa
open Go.RowKit B

theorem areaS_append : ∀ a b : List (Pt × Pt), areaS (a ++ b) = areaS a + areaS b
  | [], b => by simp [areaS]
  | x :: a, b => by simp only [List.cons_append, areaS, areaS_append a b]; omega
theorem areaS_reverse : ∀ a : List (Pt × Pt), areaS a.reverse = areaS a
  | [] => rfl
  | x :: a => by rw [List.reverse_cons, areaS_append, areaS_reverse a]; simp only [areaS]; omega
theorem areaS_swap : ∀ a : List (Pt × Pt), areaS (a.map Prod.swap) = -areaS a
  | [] => rfl
  | x :: a => by
    simp only [List.map_cons, areaS, areaS_swap a, crossT, Prod.fst_swap, Prod.snd_swap]
    rw [Int.mul_comm x.2.x, Int.mul_comm x.1.x, Int.mul_comm x.1.y, Int.mul_comm x.2.y]
    omega
theorem edges_rev (l : List Pt) : edgesL l.reverse = (((edgesL l).take (l.length - 1)).reverse ++ (edgesL l).drop (l.length - 1)).map Prod.swap := by
  apply List.ext_getElem
  · simp [edgesL_len] <;> omega
  · intro i h1 h2
    rw [edgesL_len, List.length_reverse] at h1
    rw [edgesL_at (by simpa using h1), List.getElem_map]
    by_cases hi : i < l.length - 1
    · rw [List.getElem_append_left (by simp [edgesL_len]; omega)]
      simp only [List.getElem_reverse, List.getElem_take, List.length_take, edgesL_len, List.length_reverse]
      rw [edgesL_at (by omega)]
      have e1 : (i + 1) % l.length = i + 1 := Nat.mod_eq_of_lt (by omega)
      have e2 : (l.length - 1 - 1 - i + 1) % l.length = l.length - 1 - i := by rw [Nat.mod_eq_of_lt (by omega)]; omega
      simp only [Prod.swap, Prod.mk.injEq]
      have e3 : min (l.length - 1) l.length - 1 - i = l.length - 1 - 1 - i := by omega
      simp only [e1, e3, e2]
      have e4 : l.length - 1 - (i + 1) = l.length - 1 - 1 - i := by omega
      simp only [e4]
      exact ⟨trivial, trivial⟩
    · obtain rfl : i = l.length - 1 := by omega
      rw [List.getElem_append_right (by simp [edgesL_len]), List.getElem_drop, edgesL_at (by simp only [List.length_reverse, List.length_take, edgesL_len]; omega)]
      have e1 : (l.length - 1 + 1) % l.length = 0 := by rw [Nat.sub_add_cancel (by omega)]; exact Nat.mod_self _
      have e2 : l.length - 1 + (l.length - 1 - min (l.length - 1) l.length) = l.length - 1 := by omega
      simp only [List.getElem_reverse, List.length_reverse, Prod.swap, List.length_take, edgesL_len, e2, e1, Nat.sub_self, Nat.sub_zero]
theorem areaOf_rev (l : List Pt) : areaOf l.reverse = -areaOf l := by
  rw [areaOf, edges_rev, areaS_swap, areaS_append, areaS_reverse, ← areaS_append, List.take_append_drop]; rfl
theorem rightL_rev (l : List Pt) : rightL l.reverse = rightL l := by simp [rightL]
theorem areaV_rev (l : List Pt) : areaV l.reverse = -areaV l := by
  rw [areaV, areaV, rightL_rev, areaOf_rev]; split <;> rfl
theorem areaV_bd (l : List Pt) (hl : l.length ≤ 1000) : -8796093022208000 ≤ areaV l ∧ areaV l ≤ 8796093022208000 := by
  unfold areaV
  split
  · rename_i hr
    have hin : ∀ p ∈ l, (-2097152 ≤ p.x ∧ p.x ≤ 2097152) ∧ -2097152 ≤ p.y ∧ p.y ≤ 2097152 := by
      intro p hp
      simp only [rightL, Bool.and_eq_true, List.all_eq_true] at hr
      exact Pt.inr_iff.1 (hr.2 p hp)
    have HE := edgesL_in hin
    rw [areaOf, areaS_split]
    have h1 := sumP_bd (fun x => x.1.x * x.2.y) (edgesL l) (fun x hx => by
      obtain ⟨⟨⟨a1, a2⟩, a3, a4⟩, ⟨b1, b2⟩, b3, b4⟩ := HE x hx
      exact mul_bdA ⟨a1, a2⟩ ⟨b3, b4⟩)
    have h2 := sumP_bd (fun x => x.2.x * x.1.y) (edgesL l) (fun x hx => by
      obtain ⟨⟨⟨a1, a2⟩, a3, a4⟩, ⟨b1, b2⟩, b3, b4⟩ := HE x hx
      exact mul_bdA ⟨b1, b2⟩ ⟨a3, a4⟩)
    rw [edgesL_len] at h1 h2
    generalize sumP (fun x => x.1.x * x.2.y) (edgesL l) = u at *
    generalize sumP (fun x => x.2.x * x.1.y) (edgesL l) = v at *
    omega
  · omega

end Go.Proofs.Ytfdjdfobhkmlpaa

namespace Go.Proofs.Ytfdjdfobhkmlpaa
open Go.RowKit B

theorem el_int : Elem Try.prog 48 3 (.int .i64 0) 1 8 := ⟨by kernel_rfl, by kernel_rfl, rfl, by decide, by decide⟩
theorem el_ints : Elem Try.prog 58 48 (.slice none 0 0) 1 24 := ⟨by kernel_rfl, by kernel_rfl, rfl, by decide, by decide⟩
theorem sgnI_bd (n : Int) : -1 ≤ sgnI n ∧ sgnI n ≤ 1 := by unfold sgnI; split <;> (try split) <;> omega
/-- the sign of ring k -/
def sgAt (ps : List PRow) (k : Nat) : Int := sgnI (areaV ((ps.map PRow.l).getD k []))

set_option maxRecDepth 100000 in
set_option maxHeartbeats 8000000 in
theorem groups_any (ps : List PRow) (a : Value) (S S' : Nat → Prop) (w : World) (ha : Rd w S 1 a ps.length (ps.map PRow.v)) (hA : ∀ r ∈ ps, r.rd w S') (hl : ps.length ≤ 1000) {R : Ending → World → Prop}
    (hR : ∀ s rows w', Grp w' w.heap.size s rows.length rows → rows.map IRow.l = (groupsAt (sgAt ps) ps.length).1 → Grow w w' → R (.returned (.tuple #[s, .bool (decide (0 < rows.length))])) w') :
    Calls Try.prog 24 #[a] w R := by
  have HR := Lib.hid hR
  clear hR
  have ha := ha.lt (by decide)
  have HA0 := Lib.hid ha
  have HA := Lib.hid hA
  clear hA
  obtain ⟨_, A, c, rfl, h1, h2, h3, h4⟩ := ha
  unfold maxLen at h2
  go_enter Try.func24, Try.ntmps24
  go_wp2
  go_loopw [12, 4, 5] (fun i s f wr => ∃ (k m c : Nat) (A : Option Addr) (rows : List IRow) (fi : Int), k ≤ ps.length ∧ i = .int .i64 k ∧ m ≤ k ∧ Hid (m = rows.length) ∧ s = .slice A m c ∧ f = .int .i64 fi ∧ (-1 ≤ fi ∧ fi ≤ 1) ∧ Hid (Grp wr w.heap.size (.slice A m c) m rows) ∧ Hid (groupsAt (sgAt ps) k = (rows.map IRow.l, fi)) ∧ Hid (∀ r ∈ rows, r.l.length ≤ k) ∧ Hid (Grow w wr)) (fun i _ _ _ => ps.length - (intOf i).toNat)
  case atStart => exact ⟨0, 0, 0, none, [], 0, Nat.zero_le _, rfl, Nat.le_refl _, rfl, rfl, rfl, by omega, Grp.nil _ _, rfl, fun r hr => by simp at hr, Grow.refl _⟩
  case round =>
    obtain ⟨k, m, cc, AA, rows, fi, hk, rfl, hmk, hm, rfl, rfl, hfi, hgr, hga, hrl, hg⟩ := hrel
    by_cases hlt : k < ps.length
    · obtain ⟨b, o, rfl, -, -⟩ := h4 (by omega)
      have c1 : wr.cell? ⟨b, o + k, none⟩ = some (ps[k]'hlt).v := by
        have := rd_cell hg.out HA0.out rfl (i := k) (by simpa using hlt)
        rw [List.getElem_map] at this
        exact this
      have r1 := HA.out (ps[k]'hlt) (List.getElem_mem hlt)
      have SG : Hid (sgAt ps k = sgnI (areaV (ps[k]'hlt).l)) := by
        show _ = _
        simp [sgAt, hlt]
      have GS : Hid (groupsAt (sgAt ps) (k + 1) = stepG (rows.map IRow.l, fi) k (sgAt ps k)) := by
        show _ = _
        rw [groupsAt, hga.out]
      have NE : Hid (fi ≠ 0 → rows ≠ []) := by
        intro h e
        have := groupsAt_ne (sgAt ps) k
        rw [hga.out, e] at this
        exact this h rfl
      clear h3 h4 hga
      generalize ps[k]'hlt = p at *
      obtain ⟨v, l⟩ := p
      dsimp only at *
      unfold PRow.rd at r1
      dsimp only at r1
      have r1 := Lib.hid (r1.gr2 (by decide) hg.out)
      have bs := sgnI_bd (areaV l)
      have HS := Lib.hid fun (R : Ending → World → Prop) hR => wsign_any l v _ wr r1.out (R := R) hR
      rw [← SG.out] at HS bs
      obtain ⟨_, A2, c2, rfl, x1, x2, x3, -⟩ := r1.out
      unfold maxLen at x2
      generalize sgAt ps k = s at *
      clear r1 SG
      go_wp2_with fail
      clear c1
      refine HS.out _ ?_
      intro w1 hg1
      have G1 := Lib.hid (hg.out.tr hg1)
      have GR1 := Lib.hid (hgr.out.grow hg1)
      clear hg1 hgr HS
      have ST : Hid (∀ st, stepG (rows.map IRow.l, fi) k s = st → groupsAt (sgAt ps) (k + 1) = st) := by rintro st rfl; exact GS.out
      clear GS
      by_cases hs0 : s = 0
      · have ST := Lib.hid (ST.out (rows.map IRow.l, fi) (by rw [stepG, if_pos hs0]))
        have t1 : (s == 0) = true := by simp [hs0]
        clear NE
        go_wp2
        go_roundw
        case rel => exact ⟨k + 1, m, cc, AA, rows, fi, by omega, by go_num, by omega, hm.out, rfl, rfl, hfi, GR1.out, ST.out, fun r hr => Nat.le_succ_of_le (hrl.out r hr), G1.out⟩
        case measure => simp [intOf]; omega
      · have t1 : (s == 0) = false := by simp [hs0]
        have ST2 := ST.out
        rw [stepG, if_neg hs0] at ST2
        clear ST
        by_cases hf0 : fi = 0
        · have t2 : (fi == 0) = true := by simp [hf0]
          have ST3 : Hid (∀ st, (rows.map IRow.l ++ [[k]], s) = st → groupsAt (sgAt ps) (k + 1) = st) := by
            intro st h; refine ST2 st ?_; rw [if_pos hf0]; exact h
          clear ST2 NE
          go_wp2_with (at_builtin; refine wpList_newAt rfl _ _ rfl el_ints (own_grow GR1.out.out ((Grow.refl _).al _)) rfl 1 _ (World.size_alloc _ _) _ rfl (by decide) rfl (by simp [Value.oneCell']) (by omega) (G1.out.al _) ⟨Nat.le_refl _, (G1.out.al _).size⟩ ?_; intro v1 w4 hown4 hg4 hgr4 hb4; have GR4 := Lib.hid (GR1.out.app G1.out.size hown4 hgr4 hb4); have G4 := Lib.hid hg4; obtain ⟨A5, c5, rfl⟩ := own_slice hown4; clear hown4 hg4 hgr4 hb4)
          go_roundw
          case rel =>
            refine ⟨k + 1, m + 1, c5, A5, _, s, by omega, by go_num, by omega, ?_, rfl, rfl, by omega, GR4.out, ?_, ?_, G4.out⟩
            · show _ = _
              rw [List.length_append, ← hm.out]; rfl
            · refine ST3.out _ ?_
              rw [List.map_append]; rfl
            · intro r hr
              rcases List.mem_append.1 hr with hr | hr
              · exact Nat.le_succ_of_le (hrl.out r hr)
              · rw [List.mem_singleton.1 hr]; simp
          case measure => simp [intOf]; omega
        · have t2 : (fi == 0) = false := by simp [hf0]
          rw [if_neg hf0] at ST2
          by_cases hsf : s = fi
          · have t3 : (s == fi) = true := by simp [hsf]
            have ST3 : Hid (∀ st, (rows.map IRow.l ++ [[k]], fi) = st → groupsAt (sgAt ps) (k + 1) = st) := by
              intro st h; refine ST2 st ?_; rw [if_pos hsf]; exact h
            clear ST2 NE
            go_wp2_with (at_builtin; refine wpList_newAt rfl _ _ rfl el_ints (own_grow GR1.out.out ((Grow.refl _).al _)) rfl 1 _ (World.size_alloc _ _) _ rfl (by decide) rfl (by simp [Value.oneCell']) (by omega) (G1.out.al _) ⟨Nat.le_refl _, (G1.out.al _).size⟩ ?_; intro v1 w4 hown4 hg4 hgr4 hb4; have GR4 := Lib.hid (GR1.out.app G1.out.size hown4 hgr4 hb4); have G4 := Lib.hid hg4; obtain ⟨A5, c5, rfl⟩ := own_slice hown4; clear hown4 hg4 hgr4 hb4)
            go_roundw
            case rel =>
              refine ⟨k + 1, m + 1, c5, A5, _, fi, by omega, by go_num, by omega, ?_, rfl, rfl, by omega, GR4.out, ?_, ?_, G4.out⟩
              · show _ = _
                rw [List.length_append, ← hm.out]; rfl
              · refine ST3.out _ ?_
                rw [List.map_append]; rfl
              · intro r hr
                rcases List.mem_append.1 hr with hr | hr
                · exact Nat.le_succ_of_le (hrl.out r hr)
                · rw [List.mem_singleton.1 hr]; simp
            case measure => simp [intOf]; omega
          · have t3 : (s == fi) = false := by simp [hsf]
            have ST3 : Hid (∀ st, (appendLast (rows.map IRow.l) k, fi) = st → groupsAt (sgAt ps) (k + 1) = st) := by
              intro st h; refine ST2 st ?_; rw [if_neg hsf]; exact h
            have hne := NE.out hf0
            clear ST2 NE
            obtain ⟨init, r, rfl⟩ : ∃ init r, rows = init ++ [r] := by
              rcases List.eq_nil_or_concat rows with rfl | ⟨i, r, rfl⟩
              · exact absurd rfl hne
              · exact ⟨i, r, List.concat_eq_append⟩
            have hm2 : m = init.length + 1 := by have := hm.out; simpa using this
            have HM := Lib.hid hm2
            obtain ⟨g, c6, e6⟩ := own_form GR1.out.out (by omega)
            injection e6 with e6 _ e7
            subst e6 e7
            have hmem : r ∈ init ++ [r] := List.mem_append.2 (.inr (List.mem_singleton.2 rfl))
            have HE := Lib.hid (GR1.out.each r hmem)
            have hrb := hrl.out r hmem
            have cl : w1.cell? ⟨g, init.length, none⟩ = some r.v := by
              have := rd_cell (Grow.refl w1) (Rd.own GR1.out.out) rfl (i := init.length) (by simp)
              rw [Nat.zero_add] at this
              rw [this]; simp
            obtain ⟨A7, c7, e7⟩ := own_slice HE.out.1
            obtain ⟨rv, rl⟩ := r
            dsimp only at e7 HE cl hrb
            subst e7
            clear hne hmem
            subst hm2
            have GH : Hid (w1.ownsRow w.heap.size 48 1 (.slice (some ⟨g, 0, none⟩) (init.length + 1) cc) (init.length + 1) ((init ++ [(⟨.slice A7 rl.length c7, rl⟩ : IRow)]).map IRow.v)) := GR1.out.out
            go_wp2_with (at_builtin; refine wpList_new rfl _ _ rfl el_int HE.out.1 rfl 1 _ rfl (by decide) rfl (by simp [Value.oneCell']) (by omega) G1.out ⟨Nat.le_refl _, G1.out.size⟩ ?_; intro v4 w4 hown4 hg4 hgr4 hb4; have GRL := Lib.hid (GR1.out.last rfl hown4 hgr4 hb4); have G4 := Lib.hid hg4; have o4 := GH.out.kept hgr4 (.inr (fun e => HE.out.2.2 e.symm)); have f4 := own_free o4 init.length; have d4 : w4.cell? ⟨g, init.length, none⟩ = some (.slice A7 rl.length c7) := (by have := rd_cell (Grow.refl w4) (Rd.own o4) rfl (i := init.length) (by simp); rw [Nat.zero_add] at this; rw [this]; simp); obtain ⟨A8, c8, rfl⟩ := own_slice hown4; clear hown4 hg4 hgr4 hb4 o4 cl)
            go_roundw
            case rel =>
              refine ⟨k + 1, init.length + 1, cc, some ⟨g, 0, none⟩, init ++ [IRow.mk (.slice A8 (rl.length + 1) c8) (rl ++ [k])], fi, by omega, by go_num, by omega, ?_, rfl, rfl, by omega, GRL.out, ?_, ?_, G4.out.set (p := ⟨g, init.length, none⟩) ((GH.out.lt g rfl).1) _⟩
              · show _ = _
                simp
              · refine ST3.out _ ?_
                rw [List.map_append, List.map_append]
                show (appendLast (init.map IRow.l ++ [rl]) k, fi) = (init.map IRow.l ++ [rl ++ [k]], fi)
                rw [appendLast_snoc]
              · intro r hr
                rcases List.mem_append.1 hr with hr | hr
                · exact Nat.le_succ_of_le (hrl.out r (List.mem_append.2 (.inl hr)))
                · rw [List.mem_singleton.1 hr, List.length_append]; simpa using hrb
            case measure => simp [intOf]; omega
    · obtain rfl : k = ps.length := by omega
      have hm' := hm.out
      subst hm'
      go_wp2
      refine HR.out _ rows _ hgr.out ?_ hg.out
      rw [hga.out]
end Go.Proofs.Ytfdjdfobhkmlpaa
