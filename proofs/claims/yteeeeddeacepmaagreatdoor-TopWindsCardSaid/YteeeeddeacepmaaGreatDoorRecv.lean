import Derived.Test.YteeeeddeacepmaaGreatDoorCore
import Derived.Recover
import Derived.Tactics
import Derived.Defers
namespace Go.Proofs.YteeeeddeacepmaaGreatDoor
set_option maxRecDepth 100000
open Go
variable {P : Program} {Q : Exit -> Act -> List Frame -> World -> Prop} {a : Act} {cs cs' : List Frame} {w : World}
def recOf (cs : List Frame) : Value × List Frame := match recoverD cs with
 | some (v, cs') => (v, cs')
 | none => (.nilIface, cs)
theorem wpS_recover {id : Nat} {o : Oper} {l : List Oper} {y : Code} {v : Value} (hg : o.guard = none) (hr : (execOp a.eval o).run P w = .ok .recover w) (hv : recOf cs = (v, cs'))
  (h : wpList P (o :: l).toArray (Exit.then (fun a w => y.wpS P Q a cs' w) (fun e a w => Q e a cs' w)) l (a.put o.dst v) w) : (Code.seq (.region id (o :: l).toArray false) y).wpS P Q a cs w := by
 apply wpS_seq; intro b k hb hro; have hlen : (o :: l).toArray.size = l.length + 1 := by simp
 have h2 : wpOps P (o :: l).toArray (Exit.then (fun a w => y.wpS P Q a cs' w) (fun e a w => Q e a cs' w)) (List.range' 1 l.length) (a.put o.dst v) w := by
  rw [wpOps_eq_wpList l 1 (by intro j; simp [Nat.add_comm 1 j])]; exact h
 obtain ⟨e, a', w', hq, harr⟩ := wp_ops _ _ _ h2 b k cs'; refine ⟨e, a', cs', w', ?_, ?_⟩
 ·cases e <;> exact hq
 ·refine .of_steps (.head step_region (.one (m₁ := lone (b.at (a.put o.dst v) (.inRegion (o :: l).toArray (List.range' 1 l.length) :: k)) cs' w) ?_)) harr
  rw [hlen, List.range_eq_range', List.range'_succ]; have ho : (o :: l).toArray[0]? = some o := by simp
  have hw : Region.wanted o (yielded (o :: l).toArray a.tmps) = true := by simp [Region.wanted, hg]
  have hgo := stepG_op (P := P) (b := b) (a := a) (k := k) (cs := cs) (w := w) (rest := List.range' (0 + 1) l.length) ho hw
  have hfin : ∀ v, (b.at a (.inRegion (o :: l).toArray (0 :: List.range' (0 + 1) l.length) :: k)).finish v = b.at (a.put o.dst v) (.inRegion (o :: l).toArray (List.range' (0 + 1) l.length) :: k) := by
   intro v; rw [Frame.finish_at, ho]; rfl
  have hk : (b.at a (.inRegion (o :: l).toArray (0 :: List.range' (0 + 1) l.length) :: k)).kind = .deferred := hb; have htr := tryRecover_deferred hk cs; unfold recOf at hv
  split at hv
  ·rename_i v' cs1 hrec
   injection hv with e1 e2
   subst e1 e2; refine step_lone_go ?_; rw [hgo, <- hfin]; simp only [Frame.at] at htr ⊢; simp [stepG.apply, hr, htr, hrec]
  ·rename_i hrec
   injection hv with e1 e2
   subst e1 e2; refine step_lone_go ?_; rw [hgo, <- hfin]; simp only [Frame.at] at htr ⊢; simp [stepG.apply, hr, htr, hrec]
end Go.Proofs.YteeeeddeacepmaaGreatDoor
