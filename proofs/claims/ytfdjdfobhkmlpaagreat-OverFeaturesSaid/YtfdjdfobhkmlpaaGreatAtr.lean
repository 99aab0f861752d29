import Derived.Test.YtfdjdfobhkmlpaaGreatVal
namespace Go.Proofs.YtfdjdfobhkmlpaaGreat
set_option maxRecDepth 100000
open Go.RowKit B
structure Atr where
 key : ByteArray
 val : Val
def Atr.cells (a : Atr) : List Value := [.string a.key, .int .i64 a.val.k, .string a.val.t, .int .u64 a.val.b]
theorem Atr.cells_len (a : Atr) : a.cells.length = 4 := rfl
def Atrs (l : List Atr) : List Value := l.flatMap Atr.cells
def Atr.ok (a : Atr) : Prop := a.key.size <= maxLen /\ I64 a.val.k /\ U64 a.val.b /\ a.val.t.size <= maxLen
def Atr.pl (a : Atr) : ByteArray × Val := (a.key, plainV a.val)
instance (a b : List Atr) : Decidable (a.map Atr.pl = b.map Atr.pl) := inferInstance
theorem Atrs_one {l : List Atr} : ∀ u ∈ Atrs l, u.oneCell' = true := by
 intro u hu; obtain ⟨a, _, ha⟩ := List.mem_flatMap.1 hu; simp only [Atr.cells, List.mem_cons, List.not_mem_nil, or_false] at ha; rcases ha with rfl | rfl | rfl | rfl <;> rfl
end Go.Proofs.YtfdjdfobhkmlpaaGreat
