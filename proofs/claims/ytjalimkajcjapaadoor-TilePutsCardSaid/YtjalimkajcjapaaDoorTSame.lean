/-
  tile.Same, and the reference's.
-/
import Derived.Test.YtjalimkajcjapaaDoorChecked
import Derived.Test.YtjalimkajcjapaaDoorLyR
import Derived.Test.YtjalimkajcjapaaDoorPSame
namespace Go.Proofs.YtjalimkajcjapaaDoor
open Go.RowKit B

def AnyF (_ : Atr) : Prop := True
/-- the slices that a feature holds -/
def FtR.fm (x : FtR) : Prop := ∃ A n c B m d, x.f.pv = .slice A n c ∧ x.f.av = .slice B m d
def LyR.fm (x : LyR) : Prop := ∃ A n c, x.fv = .slice A n c
theorem Rd.form {w : World} {S : Nat → Prop} {size n : Nat} {v : Value} {xs : List Value} (h : Rd w S size v n xs) : ∃ A n c, v = .slice A n c := by
  obtain ⟨_, A, c, h, _⟩ := h
  exact ⟨A, n, c, h⟩
theorem FtR.rd.fm {x : FtR} {w : World} {S : Nat → Prop} (h : x.rd w S) : x.fm := by
  obtain ⟨A, n, c, h1⟩ := h.1.form
  obtain ⟨B, m, d, h2⟩ := h.2.2.form
  exact ⟨A, n, c, B, m, d, h1, h2⟩
theorem LyR.rd.fm {x : LyR} {w : World} {S : Nat → Prop} (h : x.rd w S) : x.fm := h.1.form
/- slices.EqualFunc over rows of structs -/
end Go.Proofs.YtjalimkajcjapaaDoor
