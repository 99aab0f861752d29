import Derived.Test.YteeeeddeacepmaaGreatDoorLvMN
import Derived.Test.YteeeeddeacepmaaGreatDoorLvTU
namespace Go.Proofs.YteeeeddeacepmaaGreatDoor
set_option maxRecDepth 100000
open Go.RowKit B
open Go.Maps (Keyed)
def hdF (v : Value) : Value -> Option Value
 | .string s => if s = ⟨#[104, 111, 115, 116]⟩ then some v else none
 | _ => none
theorem hdF_host (v : Value) : hdF v (.string ⟨#[104, 111, 115, 116]⟩) = some v := by
 show (if (⟨#[104, 111, 115, 116]⟩ : ByteArray) = (⟨#[104, 111, 115, 116]⟩ : ByteArray) then some v else none) = some v; exact if_pos rfl
theorem hdF_only {v u : Value} {s : ByteArray} (h : hdF v (.string s) = some u) : s = ⟨#[104, 111, 115, 116]⟩ /\ u = v := by
 have h2 : (if s = (⟨#[104, 111, 115, 116]⟩ : ByteArray) then some v else none) = some u := h
 by_cases e : s = (⟨#[104, 111, 115, 116]⟩ : ByteArray)
 ·rw [if_pos e] at h2
  exact ⟨e, (Option.some.inj h2).symm⟩
 ·rw [if_neg e] at h2
  cases h2
theorem hdF_not {v : Value} (y : Value) (h : y ≠ .string ⟨#[104, 111, 115, 116]⟩) : hdF v y = none := by
 cases y
 case string s => exact if_neg fun e => h (by rw [e])
 all_goals rfl
theorem zeroSs (w : World) : (zeroValue 110).run Tryz.prog w = .ok (.slice none 0 0) w := Tryz.zeroValue110 w
theorem zeroIn (w : World) : (zeroValue 3).run Tryz.prog w = .ok (.int .i64 0) w := Tryz.zeroValue3 w
set_option maxHeartbeats 4000000 in
theorem right_q (w : World) (b n vb c : Nat) (hM : MapF Tryz.prog 9 w b n (hdF (.slice (some ⟨vb, 0, none⟩) 1 c))) (hv : w.cell? ⟨vb, 0, none⟩ = some (.string ⟨#[104]⟩)) {R : Ending -> World -> Prop} (hR : ∀ w', Grow w w' -> R (.returned (.bool true)) w') :
  Calls Tryz.prog 81 #[.map (some b)] w R := by
 have HR := Lh hR; have HM := Lh hM; have HV := Lh hv; have HB : Hid (vb < w.heap.size) := World.block_lt_of_cell? _ _ hv; have HB2 : Hid (b < w.heap.size) := hM.lt; clear hR hM hv; go_enter Tryz.func81, Tryz.ntmps81
 go_wp2_with (at_range; refine wpList_rangeF _ rfl _ _ rfl HM.out rfl keyS Tryz.underlying184 ?_; intro w0 cnt0 hG0 hg0 hs0)
 have G0 : Hid (Grow w w0) := grow_app (Grow.refl w) hg0 (fun k hk => by cases hk); have MG := Lh hG0; clear hG0 hg0 hs0
 go_frame
 go_loopw [9] (fun _ wr => (∃ cnt, MapG 9 wr b w.heap.size n (hdF (.slice (some ⟨vb, 0, none⟩) 1 c)) cnt) /\ Hid (Grow w wr)) (fun _ wr => wr.rangeLeft b w.heap.size)
 case atStart => exact ⟨⟨_, MG.out⟩, G0⟩
 case round =>
  obtain ⟨⟨cnt, hG⟩, hg⟩ := hrel; have MW := Lh hG; clear hG
  go_wp2_with (first
   | (at_next; refine wpList_nextS _ rfl _ rfl MW.out rfl ?_ ?_)
   | (at_lookup; refine wpList_look1 _ rfl _ _ _ rfl MW.out.map rfl keyS Tryz.underlying184 (zeroSs _) (key := .string ⟨#[104, 111, 115, 116]⟩) rfl (strKey (by decide)) (v := .slice (some ⟨vb, 0, none⟩) 1 c) (by rw [hdF_host]; rfl) ?_))
  ·exact HR.out _ hg.out
  ·intro s v w1 cnt1 hf hG1 hlt hg1 hs1 hen
   obtain ⟨rfl, rfl⟩ := hdF_only hf; have G1 : Hid (Grow w w1) := grow_app hg.out hg1 (fun k hk => by injection hk with hk; omega); have c0 : w1.cell? ⟨vb, 0, none⟩ = some (.string ⟨#[104]⟩) := by rw [Below.cell G1.out HB.out]; exact HV.out
   have LT : Hid (w1.rangeLeft b w.heap.size < wr.rangeLeft b w.heap.size) := by show _ < _; rw [hG1.left, MW.out.left]; exact hlt
   have MG1 := Lh hG1; clear hf hG1 hlt hg1 hs1; go_wp2; go_roundw
   case rel => exact ⟨⟨_, MG1.out⟩, G1⟩
   case measure => exact LT.out
set_option maxHeartbeats 2000000 in
theorem tags_nil (w : World) {R : Ending -> World -> Prop} (hR : R (.returned (.tuple #[.slice none 0 0, .bool false])) w) :
  Calls Tryz.prog 83 #[.slice none 0 0] w R := by
 have HR := Lh hR; clear hR; go_enter Tryz.func83, Tryz.ntmps83
 go_wp2
 go_loop [2, 10] (fun l i => l = .slice none 0 0 /\ i = .int .i64 0) (fun _ _ => 0)
 case atStart => exact ⟨rfl, rfl⟩
 case round =>
  obtain ⟨rfl, rfl⟩ := hrel; go_wp2
  go_loop [2, 19] (fun l i => l = .slice none 0 0 /\ i = .int .i64 0) (fun _ _ => 0)
  case atStart => exact ⟨rfl, rfl⟩
  case round =>
   obtain ⟨rfl, rfl⟩ := hrel; go_wp2; exact HR.out
set_option maxHeartbeats 2000000 in
theorem accepts_nil (w : World) {R : Ending -> World -> Prop} (hR : ∀ w', Grow w w' -> R (.returned (.bool false)) w') :
  Calls Tryz.prog 84 #[.slice none 0 0] w R := by
 have HR := Lh hR; clear hR; have hmm := @run_makeMap Tryz.prog; have M0 := Lh (MapF.made w Tryz.prog 9); go_enter Tryz.func84, Tryz.ntmps84
 go_wp2; clear hmm
 go_loopw [18] (fun i wr => i = .int .i64 0 /\ Hid (wr = w.alloc (.map #[] 0))) (fun _ _ => 0)
 case atStart => exact ⟨rfl, rfl⟩
 case round =>
  obtain ⟨rfl, hw⟩ := hrel; obtain rfl := hw.out
  go_wp2_with (first
   | (at_lookup; refine wpList_lookok _ rfl _ _ _ rfl M0.out rfl keyS Tryz.underlying225 (zeroIn _) (key := .string ⟨#[103, 122, 105, 112]⟩) rfl (strKey (by decide)) (v := .int .i64 0) (ok := false) rfl rfl ?_)
   | (at_lookup; refine wpList_look1 _ rfl _ _ _ rfl M0.out rfl keyS Tryz.underlying225 (zeroIn _) (key := .string ⟨#[42]⟩) rfl (strKey (by decide)) (v := .int .i64 0) rfl ?_))
  exact HR.out _ ((Grow.refl _).al _)
end Go.Proofs.YteeeeddeacepmaaGreatDoor
