import Derived.Test.YteeeeddeacepmaaGreatDoorLvRQ
import Derived.Test.YteeeeddeacepmaaGreatDoorLvSJ
import Derived.Lib.ConvBytes
import Derived.Lib.SlBytesConst
namespace Go.Proofs.YteeeeddeacepmaaGreatDoor
set_option maxRecDepth 100000
open Go.RowKit B
theorem lvStr {w : World} {S : Nat -> Prop} {v : Value} {l : List UInt8} (h : Rd w S 1 v l.length (U8 l)) : (convert 65 9 v).run Tryz.prog w = .ok (.string ⟨l.toArray⟩) w :=
 run_str _ _ 5 Tryz.underlying65 Tryz.underlying5 Tryz.underlying9 h
theorem lvBytes (W : World) (t : ByteArray) : (convert 9 65 (.string t)).run Tryz.prog W = .ok (.slice (some ⟨W.heap.size, 0, none⟩) t.size (grownCap W t.size 0 5)) (Lib.bytesWorld W 5 t) :=
 Lib.run_convert_string_bytes W _ _ _ t Tryz.underlying9 Tryz.underlying65 Tryz.underlying5
theorem lvGrow (w : World) (e : TypeId) (s : ByteArray) : Grow w (Lib.bytesWorld w e s) :=
 ⟨rfl, rfl, rfl, by rw [Lib.bytesWorld_size]; omega, fun j hj => Lib.bytesWorld_at_old w e s j hj⟩
def Row4 (w0 : World) (b : Nat) (k : Int) (W : World) : Prop :=
 Grow w0 W /\ w0.heap.size <= b /\ W.frozen? ⟨b, 0, none⟩ = false /\ W.cell? ⟨b, 0, none⟩ = some (.int .u8 k) /\ W.cell? ⟨b, 1, none⟩ = some (.int .u8 111) /\ W.cell? ⟨b, 2, none⟩ = some (.int .u8 115) /\ W.cell? ⟨b, 3, none⟩ = some (.int .u8 116)
theorem Row4.laid (w : World) : Row4 w w.heap.size 72 (Lib.bytesWorld w 5 ⟨#[72, 111, 115, 116]⟩) := by
 have h := fun j hj => Lib.bytesWorld_cell w 5 ⟨#[72, 111, 115, 116]⟩ j hj
 refine ⟨lvGrow _ _ _, Nat.le_refl _, ?_, h 0 (by decide), h 1 (by decide), h 2 (by decide), h 3 (by decide)⟩; have h1 := Lib.bytesWorld_at_new w 5 ⟨#[72, 111, 115, 116]⟩
 have h2 : 4 <= (Lib.bytesCells w 5 ⟨#[72, 111, 115, 116]⟩).size := by
  unfold Lib.bytesCells; simp
 have h3 : (Lib.bytesCells w 5 ⟨#[72, 111, 115, 116]⟩).size ≠ 0 := by omega
 simp [World.frozen?, h1, h3]
theorem Row4.set {w0 W : World} {b : Nat} {k : Int} (h : Row4 w0 b k W) (n : Int) : Row4 w0 b n (W.setCell ⟨b, 0, none⟩ (.int .u8 n)) := by
 obtain ⟨h1, h2, h3, h4, h5, h6, h7⟩ := h; refine ⟨h1.set h2 _, h2, ?_, ?_, ?_, ?_, ?_⟩
 ·rw [World.frozen?_setCell]; exact h3
 ·exact World.cell?_setCell_same _ _ _ h4
 ·rw [World.cell?_setCell_other _ _ _ _ (by simp)]; exact h5
 ·rw [World.cell?_setCell_other _ _ _ _ (by simp)]; exact h6
 ·rw [World.cell?_setCell_other _ _ _ _ (by simp)]; exact h7
theorem Row4.str {w0 W : World} {b c : Nat} {k : UInt8} (h : Row4 w0 b k.toNat W) (hc : 4 <= c) (hm : c <= maxLen) : (convert 65 9 (.slice (some ⟨b, 0, none⟩) 4 c)).run Tryz.prog W = .ok (.string ⟨#[k, 111, 115, 116]⟩) W := by
 obtain ⟨h1, h2, h3, h4, h5, h6, h7⟩ := h; refine lvStr (S := fun x => x = b) (l := [k, 111, 115, 116]) ⟨rfl, _, _, rfl, hc, hm, fun h => (by cases h), fun _ => ⟨b, 0, rfl, rfl, fun j u hu => ?_⟩⟩
 match j, hu with
 | 0, hu => injection hu with hu; rw [<- hu]; exact h4
 | 1, hu => injection hu with hu; rw [<- hu]; exact h5
 | 2, hu => injection hu with hu; rw [<- hu]; exact h6
 | 3, hu => injection hu with hu; rw [<- hu]; exact h7
set_option maxHeartbeats 4000000 in
theorem small_host (w : World) {R : Ending -> World -> Prop} (hR : ∀ w', Grow w w' -> R (.returned (.string ⟨#[104, 111, 115, 116]⟩)) w') :
  Calls Tryz.prog 122 #[.string ⟨#[72, 111, 115, 116]⟩] w R := by
 have HR := Lh hR; clear hR
 obtain ⟨wb, hwb⟩ : ∃ wb, wb = Lib.bytesWorld w 5 ⟨#[72, 111, 115, 116]⟩ := ⟨_, rfl⟩
 obtain ⟨c, hc⟩ : ∃ c, c = grownCap w 4 0 5 := ⟨_, rfl⟩
 have hcv : (convert 9 65 (.string ⟨#[72, 111, 115, 116]⟩)).run Tryz.prog w = .ok (.slice (some ⟨w.heap.size, 0, none⟩) 4 c) wb := by rw [hwb, hc]; exact lvBytes w _
 have R0 : Hid (Row4 w w.heap.size 72 wb) := by rw [hwb]; exact Row4.laid w
 have HC : Hid (4 <= c /\ c <= maxLen) := ⟨by rw [hc]; exact grownCap_ge _ _ _ _, by rw [hc]; exact grownCap_le_maxLen _ _ _ _ (by decide)⟩
 obtain ⟨b, hb⟩ : ∃ b, b = w.heap.size := ⟨_, rfl⟩
 rw [<- hb] at hcv R0; clear hwb hc hb; go_enter Tryz.func122, Tryz.ntmps122
 go_wp2; clear hcv
 go_loopw [10] (fun i wr => (i = .int .i64 0 /\ Hid (Row4 w b 72 wr)) ∨ ((i = .int .i64 1 ∨ i = .int .i64 2 ∨ i = .int .i64 3 ∨ i = .int .i64 4) /\ Hid (Row4 w b 104 wr))) (fun i _ => (4 - intOf i).toNat)
 case atStart => exact .inl ⟨rfl, R0⟩
 case round =>
  rcases hrel with ⟨rfl, HW⟩ | ⟨hi, HW⟩
  ·obtain ⟨h1, h2, h3, h4, h5, h6, h7⟩ := HW.out
   have g3 := h3; have g4 := h4; have g5 := h5; have g6 := h6; have g7 := h7; clear h1 h2 h3 h4 h5 h6 h7; go_wp2; go_roundw
   case rel => exact .inr ⟨.inl rfl, HW.out.set 104⟩
   case measure => simp [intOf]
  ·have hcs : (convert 65 9 (.slice (some ⟨b, 0, none⟩) 4 c)).run Tryz.prog wr = .ok (.string ⟨#[104, 111, 115, 116]⟩) wr := Row4.str (k := 104) HW.out HC.out.1 HC.out.2
   obtain ⟨h1, h2, h3, h4, h5, h6, h7⟩ := HW.out; have g3 := h3; have g4 := h4; have g5 := h5; have g6 := h6; have g7 := h7; clear h1 h2 h3 h4 h5 h6 h7; rcases hi with rfl | rfl | rfl | rfl
   all_goals first | (go_wp2; go_roundw; (case rel => first | exact .inr ⟨.inr (.inl rfl), HW⟩ | exact .inr ⟨.inr (.inr (.inl rfl)), HW⟩ | exact .inr ⟨.inr (.inr (.inr rfl)), HW⟩); (case measure => simp [intOf])) | (go_wp2; exact HR.out _ HW.out.1)
end Go.Proofs.YteeeeddeacepmaaGreatDoor
namespace Go.Proofs.YteeeeddeacepmaaGreatDoor
set_option maxRecDepth 100000
open Go.RowKit B
def RowU (q : Nat) (l : List UInt8) (W : World) : Prop := ∃ T fr, W.heap[q]? = some (.cells (U8 l).toArray T fr)
theorem RowU.tr {q : Nat} {l : List UInt8} {W W' : World} (h : RowU q l W) (hg : Grow W W') : RowU q l W' := by
 obtain ⟨T, fr, h⟩ := h; exact ⟨T, fr, (hg.block q (lt_of_block h)).trans h⟩
theorem lv_cells {W : World} {q : Nat} {l : List UInt8} (h : RowU q l W) : ∀ i, i < l.length -> W.cell? ⟨q, i, none⟩ = some (.int .u8 (l.getD i 0).toNat) := by
 obtain ⟨T, fr, h⟩ := h; intro i hi; rw [cell_of_row W q i _ _ _ h, List.getElem?_toArray, U8_at _ _ hi]; simp [List.getD, hi]
theorem lv_in {W : World} {q : Nat} {l : List UInt8} (h : RowU q l W) : Lib.BytesIn W (some ⟨q, 0, none⟩) l.length (l.map fun x => (x.toNat : Int)) :=
 fun _ => ⟨q, 0, rfl, fun i hi => by rw [Nat.zero_add, lv_cells h i hi]; simp [List.getD, hi]⟩
theorem lv_rd {W : World} {q : Nat} {l : List UInt8} (h : RowU q l W) {n c : Nat} (hn : n <= l.length) (hc : n <= c) (hm : c <= maxLen) :
  Rd W (fun x => x = q) 1 (.slice (some ⟨q, 0, none⟩) n c) (l.take n).length (U8 (l.take n)) := by
 have hl : (l.take n).length = n := by simp; omega
 refine ⟨by rw [U8_len, Nat.mul_one], _, _, by rw [hl], by rw [hl]; exact hc, hm, fun h => (by cases h), fun _ => ⟨q, 0, rfl, rfl, fun j u hu => ?_⟩⟩; have hj : j < (l.take n).length := by have := (List.getElem?_eq_some_iff.1 hu).1; rwa [U8_len] at this
 rw [U8_at _ _ hj] at hu; injection hu with hu
 rw [Nat.zero_add, lv_cells h j (by omega), <- hu]; have : j < l.length := by omega
 simp [List.getD, this]
theorem suff_at {p : Option Addr} {n c q : Nat} {l : List UInt8} {b : Bool} (hb : Lib.hasSuffix (Lib.bytesOf (l.map fun x => (x.toNat : Int))) (Lib.bytesOf (([13, 10, 13, 10] : List UInt8).map fun x => (x.toNat : Int))) = b) (hl : l.length = n) (hc : n <= c) (hn : n <= 9223372036854775807) (W : World)
  (h1 : Lib.BytesIn W p n (l.map fun x => (x.toNat : Int))) (h2 : Lib.BytesIn W (some ⟨q, 0, none⟩) 4 (([13, 10, 13, 10] : List UInt8).map fun x => (x.toNat : Int))) {R : Ending -> World -> Prop} (hR : R (.returned (.bool b)) W) :
  Calls Tryz.prog 118 #[.slice p n c, .slice (some ⟨q, 0, none⟩) 4 4] W R := by
 subst hb; refine (Any.bytes_HasSuffix_all Tryz.laysHasSuffix p _ n c 4 4 _ _ W (by simpa using hl) rfl hc hn h1 h2).mono ?_; rintro e w' ⟨rfl, rfl⟩; exact hR
theorem suff_box (w : World) : Lib.BytesIn (w.alloc (.cells #[.int .u8 13, .int .u8 10, .int .u8 13, .int .u8 10] 5 (4, 5))) (some ⟨w.heap.size, 0, none⟩) 4 (([13, 10, 13, 10] : List UInt8).map fun x => (x.toNat : Int)) :=
 lv_in (l := [13, 10, 13, 10]) ⟨5, (4, 5), heap_alloc_new w _⟩
set_option maxHeartbeats 4000000 in
theorem lines_nil (w : World) {R : Ending -> World -> Prop} (hR : ∀ w', Grow w w' -> R (.returned (.tuple #[.slice none 0 0, .bool false])) w') :
  Calls Tryz.prog 78 #[.slice none 0 0] w R := by
 have HR := Lh hR; clear hR; have kc := fun (w : World) (C : Array Value) (n c : Nat) => Lib.run_convert_bytes_const (P := Tryz.prog) w 65 5 C n c Tryz.underlying65 Tryz.underlying5
 go_enter Tryz.func78, Tryz.ntmps78
 go_wp2_with fail
 go_at_call 118; refine suff_at (l := []) (b := false) (by decide +kernel) rfl (Nat.le_refl _) (by decide) _ (Lib.BytesIn.nil _ _ _) (suff_box w) ?_; go_wp2; exact HR.out _ ((Grow.refl _).al _)
set_option maxHeartbeats 4000000 in
theorem lines_q (w : World) (q : Nat) (hB : RowU q rqT w) (hm : MaxIs w) {R : Ending -> World -> Prop}
  (hR : ∀ b w', Grow w w' -> BoxH w b #[.string ⟨#[71, 69, 84, 32, 47, 97, 46, 106, 115, 111, 110, 32, 72, 84, 84, 80, 47, 49, 46, 49]⟩, .string ⟨#[72, 111, 115, 116, 58, 32, 104]⟩] 9 w' -> R (.returned (.tuple #[.slice (some ⟨b, 0, none⟩) 2 2, .bool true])) w') :
  Calls Tryz.prog 78 #[.slice (some ⟨q, 0, none⟩) 33 33] w R := by
 have HR := Lh hR
 obtain ⟨wa, hwa⟩ : ∃ wa, wa = w.alloc (.cells #[.int .u8 13, .int .u8 10, .int .u8 13, .int .u8 10] 5 (4, 5)) := ⟨_, rfl⟩
 have GA : Hid (Grow w wa) := by subst hwa; exact (Grow.refl _).al _
 have SB := Lh (suff_box w); rw [<- hwa] at SB; have B1 := Lh (hB.tr GA.out); have HM := Lh (hm.gr GA.out); have hcs : (convert 65 9 (.slice (some ⟨q, 0, none⟩) 29 33)).run Tryz.prog wa = .ok (.string ⟨(rqT.take 29).toArray⟩) wa := lvStr (lv_rd (n := 29) B1.out (by decide) (by decide) (by decide)); clear hR hB hm; have kc := fun (w : World) (C : Array Value) (n c : Nat) => Lib.run_convert_bytes_const (P := Tryz.prog) w 65 5 C n c Tryz.underlying65 Tryz.underlying5
 go_enter Tryz.func78, Tryz.ntmps78
 go_wp2_with fail
 rw [show w.alloc (.cells #[.int .u8 13, .int .u8 10, .int .u8 13, .int .u8 10] 5 (4, 5)) = wa from hwa.symm]; clear hwa kc; go_at_call 118; refine suff_at (l := rqT) (b := true) (by decide +kernel) rfl (Nat.le_refl _) (by decide) _ (lv_in B1.out) SB.out ?_; clear SB; go_wp2_with fail
 go_at_call 119; refine split_at (n := 1) (l := [⟨#[71, 69, 84, 32, 47, 97, 46, 106, 115, 111, 110, 32, 72, 84, 84, 80, 47, 49, 46, 49]⟩, ⟨#[72, 111, 115, 116, 58, 32, 104]⟩]) (by decide +kernel) (by decide +kernel) (by decide) (by decide) w wa GA.out HM.out ?_; intro b w1 hg1 hb1; have G1 := Lh (GA.out.tr hg1); have BL := Lh hb1; clear hg1 hb1 hcs B1 HM; go_wp2
 go_loopw [26] (fun i wr => (i = .int .i64 0 ∨ i = .int .i64 1 ∨ i = .int .i64 2) /\ Hid (Grow w1 wr)) (fun i _ => (2 - intOf i).toNat)
 case atStart => exact ⟨.inl rfl, Grow.refl _⟩
 case round =>
  obtain ⟨hi, hg⟩ := hrel; have BW := Lh ((BL.out : BoxH w b _ _ w1).tr hg.out); have c0 := BW.out.cell 0; have c1 := BW.out.cell 1; simp only [List.getElem?_toArray, List.getElem?_cons_zero, List.getElem?_cons_succ, List.map_cons, List.map_nil] at c0 c1; rcases hi with rfl | rfl | rfl
  ·go_wp2_with fail
   go_at_call 120; refine any_at (b := false) (by decide +kernel) (by decide) (by decide) (by decide +kernel) (by decide +kernel) _ ?_; intro w2 hg2; have G2 := Lh (hg.out.tr hg2); clear hg2 c0 c1; go_wp2; go_roundw
   case rel => exact ⟨.inr (.inl rfl), G2⟩
   case measure => simp [intOf]
  ·go_wp2_with fail
   go_at_call 120; refine any_at (b := false) (by decide +kernel) (by decide) (by decide) (by decide +kernel) (by decide +kernel) _ ?_; intro w2 hg2; have G2 := Lh (hg.out.tr hg2); clear hg2 c0 c1; go_wp2; go_roundw
   case rel => exact ⟨.inr (.inr rfl), G2⟩
   case measure => simp [intOf]
  ·go_wp2
   exact HR.out _ _ (G1.out.tr hg.out) BW.out
set_option maxHeartbeats 4000000 in
theorem header_q (w : World) (hm : MaxIs w) {R : Ending -> World -> Prop} (hR : ∀ w', Grow w w' -> R (.returned (.tuple #[.string ⟨#[104, 111, 115, 116]⟩, .string ⟨#[104]⟩, .bool true])) w') :
  Calls Tryz.prog 80 #[.string ⟨#[72, 111, 115, 116, 58, 32, 104]⟩] w R := by
 have HR := Lh hR; have HM := Lh hm; clear hR hm; go_enter Tryz.func80, Tryz.ntmps80
 go_wp2_with fail
 go_at_call 82; refine cut_at (a := [72, 111, 115, 116]) (b := [32, 104]) (ok := true) (by decide +kernel) (by decide) _ HM.out ?_; intro w1 hg1; have HG := Lh hg1; clear hg1; go_wp2_with fail
 go_at_call 121; refine token_host _ ?_; go_wp2
 go_loop [2, 3, 22] (fun a b i => a = .string ⟨#[72, 111, 115, 116]⟩ /\ b = .string ⟨#[32, 104]⟩ /\ (i = .int .i64 0 ∨ i = .int .i64 1 ∨ i = .int .i64 2)) (fun _ _ i => (2 - intOf i).toNat)
 case atStart => exact ⟨rfl, rfl, .inl rfl⟩
 case round =>
  obtain ⟨rfl, rfl, hi⟩ := hrel; rcases hi with rfl | rfl | rfl
  ·go_wp2
   go_round
   case rel => exact ⟨rfl, rfl, .inr (.inl rfl)⟩
   case measure => simp [intOf]
  ·go_wp2
   go_round
   case rel => exact ⟨rfl, rfl, .inr (.inr rfl)⟩
   case measure => simp [intOf]
  ·go_wp2_with fail
   go_at_call 122; refine small_host _ ?_; intro w2 hg2; have HG2 := Lh (HG.out.tr hg2); clear hg2; go_wp2_with fail
   go_at_call 123; refine trim_at (t := [104]) (by decide +kernel) (by decide) (by decide) (by decide +kernel) _ ?_; intro w3 hg3; have HG3 := Lh (HG2.out.tr hg3); clear hg3; go_wp2; exact HR.out _ HG3.out
end Go.Proofs.YteeeeddeacepmaaGreatDoor
