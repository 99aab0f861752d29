/-
  The moves of a region that draws its order, one by one, where two operations that make memory may come up at once. No program is named here.
-/
import Derived.Test.YtfdjdfobhkmlpaaCore
namespace Go.Proofs.Ytfdjdfobhkmlpaa.B
open Go.RowKit
section
variable {P : Program} {Q : Exit → Act → World → Prop} {S : World → Prop} {l : List Oper}

/-- the panic's way out does not look at what was put -/
def PanOk (Q : Exit → Act → World → Prop) : Prop := ∀ (c : List PanicEntry) (a : Act) (d : Option Tmp) (v : Value) (w : World), Q (.panic c) (a.put d v) w → Q (.panic c) a w

def takeOk (l : List Oper) (listed : Array Bool) (i : Nat) : Bool := Region.noSelect l.toArray && Region.free .any l.toArray listed i && (Region.ready .any l.toArray listed).contains i

/-- the walk of a region from some point on, with what it needs -/
structure HeldW (P : Program) (l : List Oper) (Q : Exit → Act → World → Prop) (S : World → Prop) (f : Nat) (listed : Array Bool) (a : Act) (w : World) : Prop where
  pan : PanOk Q
  here : S w
  walk : wpAnyH P .any l.toArray Q S f listed a w

theorem held_take {i : Nat} {o : Oper} {v : Value} {f : Nat} {listed : Array Bool} {a : Act} {w : World} (ho : nthO l i = some o) (hw : Region.wanted o (yielded l.toArray a.tmps) = true) (hok : takeOk l listed i = true)
    (hy : ∀ W, S W → (execOp a.eval o).run P W = .ok (.value v) W) (h : HeldW P l Q S f (listed.setIfInBounds i true) (a.put o.dst v) w) : HeldW P l Q S (f + 1) listed a w := by
  simp only [takeOk, Bool.and_eq_true] at hok
  exact ⟨h.pan, h.here, wpAnyH_take ((nthO_eq l i).trans ho) hok.1.1 hok.1.2 hok.2 (fun c a w => h.pan c a o.dst v w) (.inl ⟨hw, hy⟩) h.here h.walk⟩

theorem held_turn {i : Nat} {o : Oper} {f : Nat} {listed : Array Bool} {a : Act} {w : World} (ho : nthO l i = some o) (hw : Region.wanted o (yielded l.toArray a.tmps) = true)
    (h : ∀ K' : Act → World → Prop, Shut (∀ a' w', HeldW P l Q S f (listed.setIfInBounds i true) a' w' → K' a' w') → Oper.wp P o a w K' Q) :
    wpOp P l.toArray Q i (fun a' w' => S w' ∧ wpAnyH P .any l.toArray Q S f (listed.setIfInBounds i true) a' w') a w :=
  wpOp_step ((nthO_eq l i).trans ho) fun K' hK => by
    rw [if_pos hw]
    exact h K' fun a' w' hh => hK a' w' ⟨hh.here, hh.walk⟩

/-- these alone may come up -/
theorem held_all {rs : List Nat} {f : Nat} {listed : Array Bool} {a : Act} {w : World} (hp : PanOk Q) (hS : S w) (hr : Region.ready .any l.toArray listed = rs) (hne : rs.isEmpty = false)
    (h : ∀ i ∈ rs, wpOp P l.toArray Q i (fun a' w' => S w' ∧ wpAnyH P .any l.toArray Q S f (listed.setIfInBounds i true) a' w') a w) : HeldW P l Q S (f + 1) listed a w :=
  ⟨hp, hS, wpAnyH_all hr (by rintro rfl; simp at hne) h⟩

theorem held_done {listed : Array Bool} {a : Act} {w : World} {f : Nat} (hp : PanOk Q) (hS : S w) (hr : Region.ready .any l.toArray listed = []) (h : Q .normal a w) : HeldW P l Q S f listed a w :=
  ⟨hp, hS, wpAnyH_done hr h f⟩

theorem wp_region_heldW {id : Nat} {a : Act} {w : World} (S : World → Prop) (hm : P.follows .mixedOrders = true) (n : Nat) (hn : l.length = n) (h : HeldW P l Q S n (Array.replicate n false) a w.drew) : (Code.region id l.toArray true).wp P Q a w := by
  subst hn
  exact wp_region_held hm (by simpa using h.walk)
end
end Go.Proofs.Ytfdjdfobhkmlpaa.B
