import Derived.Test.YteeeeddeacepmaaGreatDoorChecked
import Derived.Test.YteeeeddeacepmaaGreatDoorCore
import Derived.Test.YteeeeddeacepmaaGreatDoorVShelf
import Derived.Test.YteeeeddeacepmaaGreatDoorBig
import Derived.Test.YteeeeddeacepmaaGreatDoorRecv
import Derived.Laws.Rows
import Derived.Laws.Tables
namespace Go.Proofs.YteeeeddeacepmaaGreatDoor
set_option maxRecDepth 100000
open Go.RowKit B
theorem blank_no (c : Int) (h : Lib.indexByte [32, 9, 10, 13] c.toNat.toUInt8 = -1) (w : World) :
  Calls Tryz.prog 107 #[.string ⟨#[32, 9, 10, 13]⟩, .int .u8 c] w fun e w' => e = .returned (.int .i64 (-1)) /\ w' = w :=
 (Any.strings_IndexByte Tryz.laysIndexByte ⟨#[32, 9, 10, 13]⟩ c w).mono fun e w' ⟨he, hw⟩ => ⟨by rw [he, show Lib.indexByte (ByteArray.mk #[32, 9, 10, 13]).data.toList c.toNat.toUInt8 = -1 from h], hw⟩
end Go.Proofs.YteeeeddeacepmaaGreatDoor
namespace Go.Proofs.YteeeeddeacepmaaGreatDoor
set_option maxRecDepth 100000
open Go.RowKit B
theorem lv_by {w w' : World} {row : Option Nat} (h : Grow w w') : w.grownBy w' row := ⟨h.os, h.tape, h.output, h.size, fun k hk _ => h.block k hk⟩
theorem lv_set {w w' : World} (h : Grow w w') (b j : Nat) (v : Value) : w.grownBy (w'.setCell ⟨b, j, none⟩ v) (some b) :=
 ⟨h.os, h.tape, h.output, by rw [size_setCell]; exact h.size, fun k hk hne => by
  have e : b ≠ k := fun e => hne (by rw [e])
  have := h.block k hk
  simpa [World.setCell, Array.getElem?_modify, e] using this⟩
theorem lv_tr {w w1 w2 : World} {row : Option Nat} (h1 : w.grownBy w1 row) (h2 : w1.grownBy w2 row) : w.grownBy w2 row :=
 ⟨h2.os.trans h1.os, h2.tape.trans h1.tape, h2.output.trans h1.output, Nat.le_trans h1.size h2.size, fun k hk hne => (h2.block k (Nat.lt_of_lt_of_le hk h1.size) hne).trans (h1.block k hk hne)⟩
theorem lv_oth (w : World) (b j : Nat) (v : Value) {k : Nat} (h : k ≠ b) : (w.setCell ⟨b, j, none⟩ v).heap[k]? = w.heap[k]? := by
 have h2 : b ≠ k := fun e => h e.symm
 simp [World.setCell, Array.getElem?_modify, h2]
theorem lv_row {w W : World} (h : Grow w W) {b : Nat} (hb : w.heap.size <= b) (cs : Array Value) : Grow w (W.setRow b cs) :=
 ⟨h.os, h.tape, h.output, by rw [setRow_size]; exact h.size, fun k hk => by rw [setRow_other _ _ _ _ (by omega)]; exact h.block k hk⟩
theorem lv_rowby {w W : World} {row : Option Nat} (h : w.grownBy W row) {b : Nat} (hb : w.heap.size <= b) (cs : Array Value) : w.grownBy (W.setRow b cs) row :=
 ⟨h.os, h.tape, h.output, by rw [setRow_size]; exact h.size, fun k hk hne => by rw [setRow_other _ _ _ _ (by omega)]; exact h.block k hk hne⟩
theorem lv_box {w0 W : World} {bb b : Nat} {cs : Array Value} {t : TypeId} (h : BoxH w0 bb cs t W) (hne : bb ≠ b) (hb : w0.heap.size <= b) (ds : Array Value) : BoxH w0 bb cs t (W.setRow b ds) :=
 ⟨lv_row h.1 hb ds, h.2.1, (setRow_other _ _ _ _ hne).trans h.2.2⟩
def RdJ (w0 : World) (b : Nat) (n : Int) (W : World) : Prop := BoxH w0 b #[.string ⟨#[91, 93]⟩, .int .i64 n] 147 W
set_option maxHeartbeats 2000000 in
theorem jskip0 (w0 w : World) (b : Nat) (h : RdJ w0 b 0 w) {R : Ending -> World -> Prop} (hR : ∀ w', Grow w w' -> R (.returned (.tuple #[])) w') :
  Calls Tryz.prog 64 #[.pointer (some ⟨b, 0, none⟩)] w R := by
 have HR := Lh hR; have HB := Lh h; clear hR h; go_enter Tryz.func64, Tryz.ntmps64
 go_wp2
 go_loopw [2] (fun _ wr => Hid (Grow w wr)) (fun _ _ => 0)
 case atStart => exact Grow.refl _
 case round =>
  have hg := hrel; clear hrel; have B1 := Lh ((HB.out : BoxH w0 b _ _ w).tr hg.out); have c0 := B1.out.cell 0; have c1 := B1.out.cell 1; simp only [List.getElem?_toArray, List.getElem?_cons_zero, List.getElem?_cons_succ] at c0 c1; clear B1; go_wp2_with fail
  go_quiet ((go_at_call 107; exact Calls.quiet_of_same (blank_no 91 rfl _)))
  go_wp2
  go_end0
  exact HR.out _ (hg.out.tr ((Grow.refl _).dn nq))
set_option maxHeartbeats 2000000 in
theorem jskip1 (w0 w : World) (b : Nat) (h : RdJ w0 b 1 w) {R : Ending -> World -> Prop} (hR : ∀ w', Grow w w' -> R (.returned (.tuple #[])) w') :
  Calls Tryz.prog 64 #[.pointer (some ⟨b, 0, none⟩)] w R := by
 have HR := Lh hR; have HB := Lh h; clear hR h; go_enter Tryz.func64, Tryz.ntmps64
 go_wp2
 go_loopw [2] (fun _ wr => Hid (Grow w wr)) (fun _ _ => 0)
 case atStart => exact Grow.refl _
 case round =>
  have hg := hrel; clear hrel; have B1 := Lh ((HB.out : BoxH w0 b _ _ w).tr hg.out); have c0 := B1.out.cell 0; have c1 := B1.out.cell 1; simp only [List.getElem?_toArray, List.getElem?_cons_zero, List.getElem?_cons_succ] at c0 c1; clear B1; go_wp2_with fail
  go_quiet ((go_at_call 107; exact Calls.quiet_of_same (blank_no 93 rfl _)))
  go_wp2
  go_end0
  exact HR.out _ (hg.out.tr ((Grow.refl _).dn nq))
set_option maxHeartbeats 2000000 in
theorem jskip2 (w0 w : World) (b : Nat) (h : RdJ w0 b 2 w) {R : Ending -> World -> Prop} (hR : ∀ w', Grow w w' -> R (.returned (.tuple #[])) w') :
  Calls Tryz.prog 64 #[.pointer (some ⟨b, 0, none⟩)] w R := by
 have HR := Lh hR; have HB := Lh h; clear hR h; go_enter Tryz.func64, Tryz.ntmps64
 go_wp2
 go_loopw [2] (fun _ wr => Hid (Grow w wr)) (fun _ _ => 0)
 case atStart => exact Grow.refl _
 case round =>
  have hg := hrel; clear hrel; have B1 := Lh ((HB.out : BoxH w0 b _ _ w).tr hg.out); have c0 := B1.out.cell 0; have c1 := B1.out.cell 1; simp only [List.getElem?_toArray, List.getElem?_cons_zero, List.getElem?_cons_succ] at c0 c1; clear B1; go_wp2_with fail
  go_quiet (fail)
  go_wp2
  go_end0
  exact HR.out _ (hg.out.tr ((Grow.refl _).dn nq))
set_option maxHeartbeats 2000000 in
theorem jpeek0 (w0 w : World) (b : Nat) (h : RdJ w0 b 0 w) {R : Ending -> World -> Prop} (hR : ∀ w', Grow w w' -> R (.returned (.int .u8 91)) w') :
  Calls Tryz.prog 102 #[.pointer (some ⟨b, 0, none⟩)] w R := by
 have HR := Lh hR; have HB := Lh h; have SK := Lh fun (R : Ending -> World -> Prop) hR => jskip0 w0 w b h (R := R) hR
 clear hR h; go_enter Tryz.func102, Tryz.ntmps102
 go_wp2_with fail
 go_at_call 64; refine SK.out _ ?_; intro w1 hg1; have B1 := Lh ((HB.out : BoxH w0 b _ _ w).tr hg1); have G1 := Lh hg1; have c0 := B1.out.cell 0; have c1 := B1.out.cell 1; simp only [List.getElem?_toArray, List.getElem?_cons_zero, List.getElem?_cons_succ] at c0 c1; clear hg1 SK HB; go_wp2
 go_quiet (fail)
 have B2 := Lh (B1.out.tr ((Grow.refl w1).dn nq)); have G2 := Lh (G1.out.dn nq); have d0 := B2.out.cell 0; have d1 := B2.out.cell 1; simp only [List.getElem?_toArray, List.getElem?_cons_zero, List.getElem?_cons_succ] at d0 d1; clear c0 c1; generalize w1.drewN nq = w2 at *; go_wp2
 go_quiet (fail)
 go_wp2; exact HR.out _ (G2.out.dn nq)
set_option maxHeartbeats 2000000 in
theorem jpeek1 (w0 w : World) (b : Nat) (h : RdJ w0 b 1 w) {R : Ending -> World -> Prop} (hR : ∀ w', Grow w w' -> R (.returned (.int .u8 93)) w') :
  Calls Tryz.prog 102 #[.pointer (some ⟨b, 0, none⟩)] w R := by
 have HR := Lh hR; have HB := Lh h; have SK := Lh fun (R : Ending -> World -> Prop) hR => jskip1 w0 w b h (R := R) hR
 clear hR h; go_enter Tryz.func102, Tryz.ntmps102
 go_wp2_with fail
 go_at_call 64; refine SK.out _ ?_; intro w1 hg1; have B1 := Lh ((HB.out : BoxH w0 b _ _ w).tr hg1); have G1 := Lh hg1; have c0 := B1.out.cell 0; have c1 := B1.out.cell 1; simp only [List.getElem?_toArray, List.getElem?_cons_zero, List.getElem?_cons_succ] at c0 c1; clear hg1 SK HB; go_wp2
 go_quiet (fail)
 have B2 := Lh (B1.out.tr ((Grow.refl w1).dn nq)); have G2 := Lh (G1.out.dn nq); have d0 := B2.out.cell 0; have d1 := B2.out.cell 1; simp only [List.getElem?_toArray, List.getElem?_cons_zero, List.getElem?_cons_succ] at d0 d1; clear c0 c1; generalize w1.drewN nq = w2 at *; go_wp2
 go_quiet (fail)
 go_wp2; exact HR.out _ (G2.out.dn nq)
end Go.Proofs.YteeeeddeacepmaaGreatDoor
