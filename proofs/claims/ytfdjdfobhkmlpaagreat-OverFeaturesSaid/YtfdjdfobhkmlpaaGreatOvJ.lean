import Derived.Test.YtfdjdfobhkmlpaaGreatOvG
namespace Go.Proofs.YtfdjdfobhkmlpaaGreat
set_option maxRecDepth 100000
open Go.RowKit Go.Lib B
theorem pright_len {ty : Int} {A : List PRow} (h : pright ty A = 0) : 1 <= ty /\ ty <= 3 /\ ∀ r ∈ A, ty <= (r.l.length : Int) := by
 unfold pright at h
 split at h
 ·omega
 ·rename_i h1
  split at h
  ·omega
  ·split at h
   ·omega
   ·rename_i h3
    refine ⟨by omega, by omega, fun r hr => ?_⟩; rw [<- Int.not_lt]; exact fun h4 => h3 ⟨r, hr, h4⟩
end Go.Proofs.YtfdjdfobhkmlpaaGreat
