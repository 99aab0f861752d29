import Derived.Test.YtfdjdfobhkmlpaaGreatRRb
import Derived.Test.YtfdjdfobhkmlpaaGreatWindB
namespace Go.Proofs.YtfdjdfobhkmlpaaGreat
set_option maxRecDepth 100000
open Go.RowKit B
theorem round_iff {f : Fr} (h : f.right = true) (n : Int) : f.val < (n : Rat) + 1 / 2 ↔ f.round <= n := by
 obtain ⟨-, hd, -, hr, -⟩ := Fr.right_iff h; unfold Fr.round; rw [if_pos h]; obtain ⟨q, r, d⟩ := f; dsimp only at *; have hd0 : (0 : Rat) < ((d : Int) : Rat) := cast_pos (by omega); have hr0 : (0 : Rat) <= ((r : Int) : Rat) := by exact_mod_cast (by omega : (0 : Int) <= r)
 have ev : (⟨q, r, d⟩ : Fr).val = (q : Rat) + ((r : Int) : Rat) / ((d : Int) : Rat) := by unfold Fr.val; push_cast; rfl
 have he : ((r : Int) : Rat) / ((d : Int) : Rat) * ((d : Int) : Rat) = ((r : Int) : Rat) := by grind
 rw [ev]
 have hlt : ((r : Int) : Rat) / ((d : Int) : Rat) < 1 := by
  rw [Rat.div_lt_iff hd0]; have : ((r : Int) : Rat) < ((d : Int) : Rat) := by exact_mod_cast (by omega : (r : Int) < d)
  grind
 have hge : 0 <= ((r : Int) : Rat) / ((d : Int) : Rat) := by
  rw [<- Rat.not_lt]; intro h; rw [Rat.div_lt_iff hd0] at h; grind
 by_cases h2 : d <= 2 * r
 ·rw [if_pos h2]
  have hh : (1 : Rat) / 2 <= ((r : Int) : Rat) / ((d : Int) : Rat) := by
   have : ((d : Int) : Rat) <= 2 * ((r : Int) : Rat) := by exact_mod_cast (by omega : (d : Int) <= 2 * r)
   rw [<- Rat.not_lt]; intro h; rw [Rat.div_lt_iff hd0] at h; grind
  generalize ((r : Int) : Rat) / ((d : Int) : Rat) = t at *
  constructor
  ·intro hv
   rw [<- Int.not_lt]; intro hn; have : (n : Rat) <= q := by exact_mod_cast (by omega : n <= q)
   grind
  ·intro hv
   have : (q : Rat) + 1 <= n := by exact_mod_cast hv
   grind
 ·rw [if_neg h2]
  have hh : ((r : Int) : Rat) / ((d : Int) : Rat) < (1 : Rat) / 2 := by
   have : 2 * ((r : Int) : Rat) < ((d : Int) : Rat) := by exact_mod_cast (by omega : 2 * (r : Int) < d)
   rw [Rat.div_lt_iff hd0]; grind
  generalize ((r : Int) : Rat) / ((d : Int) : Rat) = t at *
  constructor
  ·intro hv
   rw [<- Int.not_lt]; intro hn; have : (n : Rat) + 1 <= q := by exact_mod_cast (by omega : n + 1 <= q)
   grind
  ·intro hv
   have : (q : Rat) <= n := by exact_mod_cast hv
   grind
def ringL (z : Zm) (e : Int) (p : List Pt) : List Pt := simple ((ringR (p.map (scl z e)) (-z.b) (e + z.b)).map Spot.round) true
def ringOk (z : Zm) (e : Int) (p : List Pt) : Bool := decide (3 <= (ringL z e p).length) && decide (sgnI (areaV (ringL z e p)) = sgnI (areaV p))
def groupL (z : Zm) (e : Int) (A : List (List Pt)) : List Nat -> List (List Pt)
 | [] => []
 | i :: g => if ringOk z e (A.getD i []) = true then ringL z e (A.getD i []) :: ((g.map fun k => A.getD k []).filter (ringOk z e)).map (ringL z e) else []
def polyL (z : Zm) (e : Int) (A : List (List Pt)) : List (List Pt) := (groupsAt (fun k => sgnI (areaV (A.getD k []))) A.length).1.flatMap (groupL z e A)
def lineL (z : Zm) (e : Int) (p : List Pt) : List (List Pt) := linesN (clipR (p.map (scl z e)) (-z.b) (e + z.b))
def featL (ty : Int) (z : Zm) (e : Int) (A : List (List Pt)) : List (List Pt) := if ty = 1 then ptL z e A else if ty = 2 then A.flatMap (lineL z e) else polyL z e A
end Go.Proofs.YtfdjdfobhkmlpaaGreat
