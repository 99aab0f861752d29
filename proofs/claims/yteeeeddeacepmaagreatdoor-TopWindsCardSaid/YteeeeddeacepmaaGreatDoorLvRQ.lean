import Derived.Test.YteeeeddeacepmaaGreatDoorLvSJ
namespace Go.Proofs.YteeeeddeacepmaaGreatDoor
set_option maxRecDepth 100000
open Go.RowKit B
set_option maxHeartbeats 2000000 in
theorem token_get (w : World) {R : Ending -> World -> Prop} (hR : R (.returned (.bool true)) w) :
  Calls Tryz.prog 121 #[.string ⟨#[71, 69, 84]⟩] w R := by
 have HR := Lh hR; clear hR; go_enter Tryz.func121, Tryz.ntmps121
 go_wp2
 go_loop [6] (fun i => i = .int .i64 0 ∨ i = .int .i64 1 ∨ i = .int .i64 2 ∨ i = .int .i64 3) (fun i => (3 - intOf i).toNat)
 case atStart => exact .inl rfl
 case round =>
  rcases hrel with rfl | rfl | rfl | rfl
  all_goals first | (go_wp2; go_round; (case rel => first | exact .inl rfl | exact .inr (.inl rfl) | exact .inr (.inr (.inl rfl)) | exact .inr (.inr (.inr (.inl rfl))) | exact .inr (.inr (.inr rfl)) | exact .inr (.inr rfl) | exact .inr rfl | simp); (case measure => simp [intOf])) | (go_wp2; exact HR.out)
set_option maxHeartbeats 2000000 in
theorem token_host (w : World) {R : Ending -> World -> Prop} (hR : R (.returned (.bool true)) w) :
  Calls Tryz.prog 121 #[.string ⟨#[72, 111, 115, 116]⟩] w R := by
 have HR := Lh hR; clear hR; go_enter Tryz.func121, Tryz.ntmps121
 go_wp2
 go_loop [6] (fun i => i = .int .i64 0 ∨ i = .int .i64 1 ∨ i = .int .i64 2 ∨ i = .int .i64 3 ∨ i = .int .i64 4) (fun i => (4 - intOf i).toNat)
 case atStart => exact .inl rfl
 case round =>
  rcases hrel with rfl | rfl | rfl | rfl | rfl
  all_goals first | (go_wp2; go_round; (case rel => first | exact .inl rfl | exact .inr (.inl rfl) | exact .inr (.inr (.inl rfl)) | exact .inr (.inr (.inr (.inl rfl))) | exact .inr (.inr (.inr rfl)) | exact .inr (.inr rfl) | exact .inr rfl | simp); (case measure => simp [intOf])) | (go_wp2; exact HR.out)
set_option maxHeartbeats 2000000 in
theorem name_a (w : World) {R : Ending -> World -> Prop} (hR : R (.returned (.bool true)) w) :
  Calls Tryz.prog 72 #[.string ⟨#[97]⟩] w R := by
 have HR := Lh hR; clear hR; go_enter Tryz.func72, Tryz.ntmps72
 go_wp2
 go_loop [7] (fun i => i = .int .i64 0 ∨ i = .int .i64 1) (fun i => (1 - intOf i).toNat)
 case atStart => exact .inl rfl
 case round =>
  rcases hrel with rfl | rfl
  all_goals first | (go_wp2; go_round; (case rel => first | exact .inl rfl | exact .inr (.inl rfl) | exact .inr (.inr (.inl rfl)) | exact .inr (.inr (.inr (.inl rfl))) | exact .inr (.inr (.inr rfl)) | exact .inr (.inr rfl) | exact .inr rfl | simp); (case measure => simp [intOf])) | (go_wp2; exact HR.out)
end Go.Proofs.YteeeeddeacepmaaGreatDoor
namespace Go.Proofs.YteeeeddeacepmaaGreatDoor
set_option maxRecDepth 100000
open Go.RowKit B
def MaxIs (w : World) : Prop := ∃ m, w.cell? ⟨4, 0, none⟩ = some (.int .i64 m)
theorem MaxIs.gr {w w' : World} (h : MaxIs w) (hg : Grow w w') : MaxIs w' := by
 obtain ⟨m, hm⟩ := h; exact ⟨m, by rw [Below.cell hg (World.block_lt_of_cell? _ _ hm)]; exact hm⟩
theorem cut_at {s sep a b : List UInt8} {ok : Bool} (hc : Lib.cut s sep = (a, b, ok)) (hs : s.length < 4294967281) (w : World) (hm : MaxIs w) {R : Ending -> World -> Prop}
  (hR : ∀ w', Grow w w' -> R (.returned (.tuple #[.string ⟨a.toArray⟩, .string ⟨b.toArray⟩, .bool ok])) w') :
  Calls Tryz.prog 82 #[.string ⟨s.toArray⟩, .string ⟨sep.toArray⟩] w R := by
 obtain ⟨m, hm⟩ := hm; refine (Any.strings_Cut Tryz.laysCut ⟨s.toArray⟩ ⟨sep.toArray⟩ m w hs hm).mono ?_; rintro e w' ⟨rfl, n, rfl⟩; have hd : ∀ l : List UInt8, (ByteArray.mk l.toArray).data.toList = l := fun _ => rfl
 rw [hd, hd, hc]; exact hR _ ((Grow.refl _).dn n)
theorem split_at {s sep : ByteArray} {n : Nat} {l : List ByteArray} (hn : Lib.countB s sep = n) (hl : Lib.splitB sep 0 n s = l) (hs : s.size < 4294967281) (h1 : 1 <= sep.size) (w0 w : World) (hg : Grow w0 w) (hm : MaxIs w) {R : Ending -> World -> Prop}
  (hR : ∀ b w', Grow w w' -> BoxH w0 b (l.map Value.string).toArray 9 w' -> R (.returned (.slice (some ⟨b, 0, none⟩) (n + 1) (n + 1))) w') :
  Calls Tryz.prog 119 #[.string s, .string sep] w R := by
 obtain ⟨m, hm⟩ := hm; subst hn; subst hl; refine (Any.strings_Split Tryz.laysSplit (by kernel_rfl) s sep m w hs hm h1).mono ?_; rintro e w' ⟨rfl, rfl⟩; exact hR _ _ ((Grow.refl _).al _) (BoxH.laid _ _ hg)
theorem any_at {s cs : ByteArray} {b : Bool} (hb : Lib.containsAny s.data.toList cs.data.toList = b) (hs : s.size < 4294967281) (hcs : cs.size < 4294967281)
  (has : s.data.toList.all (fun b => decide (b.toNat < 128)) = true) (hac : cs.data.toList.all (fun b => decide (b.toNat < 128)) = true) (w : World) {R : Ending -> World -> Prop}
  (hR : ∀ w', Grow w w' -> R (.returned (.bool b)) w') : Calls Tryz.prog 120 #[.string s, .string cs] w R := by
 subst hb; refine (Any.strings_ContainsAny_laid Tryz.laysContainsAny (by kernel_rfl) s cs w hs hcs (ascii_of_all has) (ascii_of_all hac)).mono ?_; rintro e w' ⟨rfl, hw⟩; exact hR _ hw
theorem trim_at {s cs : ByteArray} {t : List UInt8} (ht : Lib.trimS s.data.toList cs.data.toList = t) (hs : s.size <= 9223372036854775807) (hcs : cs.size < 4294967281)
  (hac : cs.data.toList.all (fun b => decide (b.toNat < 128)) = true) (w : World) {R : Ending -> World -> Prop}
  (hR : ∀ w', Grow w w' -> R (.returned (.string ⟨t.toArray⟩)) w') : Calls Tryz.prog 123 #[.string s, .string cs] w R := by
 subst ht; refine (Any.strings_Trim_laid Tryz.laysTrim (by kernel_rfl) s cs w hs hcs (ascii_of_all hac)).mono ?_; rintro e w' ⟨rfl, hw⟩; exact hR _ hw
def rqT : List UInt8 := [71, 69, 84, 32, 47, 97, 46, 106, 115, 111, 110, 32, 72, 84, 84, 80, 47, 49, 46, 49, 13, 10, 72, 111, 115, 116, 58, 32, 104, 13, 10, 13, 10]
set_option maxHeartbeats 4000000 in
theorem first_q (w : World) (hm : MaxIs w) {R : Ending -> World -> Prop} (hR : ∀ w', Grow w w' -> R (.returned (.tuple #[.string ⟨#[71, 69, 84]⟩, .string ⟨#[47, 97, 46, 106, 115, 111, 110]⟩, .bool true])) w') :
  Calls Tryz.prog 79 #[.string ⟨#[71, 69, 84, 32, 47, 97, 46, 106, 115, 111, 110, 32, 72, 84, 84, 80, 47, 49, 46, 49]⟩] w R := by
 have HR := Lh hR; have HM := Lh hm; clear hR hm; go_enter Tryz.func79, Tryz.ntmps79
 go_wp2_with fail
 go_at_call 82; refine cut_at (a := [71, 69, 84]) (b := [47, 97, 46, 106, 115, 111, 110, 32, 72, 84, 84, 80, 47, 49, 46, 49]) (ok := true) (by decide +kernel) (by decide) _ HM.out ?_; intro w1 hg1; have HG := Lh hg1; clear hg1; go_wp2_with fail
 go_at_call 82; refine cut_at (a := [47, 97, 46, 106, 115, 111, 110]) (b := [72, 84, 84, 80, 47, 49, 46, 49]) (ok := true) (by decide +kernel) (by decide) _ (HM.out.gr HG.out) ?_; intro w2 hg2; have HG := Lh (HG.out.tr hg2); clear hg2; go_wp2_with fail
 go_at_call 121; refine token_get _ ?_; go_wp2
 go_loop [2, 3, 43] (fun a b i => a = .string ⟨#[71, 69, 84]⟩ /\ b = .string ⟨#[47, 97, 46, 106, 115, 111, 110]⟩ /\ (i = .int .i64 0 ∨ i = .int .i64 1 ∨ i = .int .i64 2 ∨ i = .int .i64 3 ∨ i = .int .i64 4 ∨ i = .int .i64 5 ∨ i = .int .i64 6 ∨ i = .int .i64 7)) (fun _ _ i => (7 - intOf i).toNat)
 case atStart => exact ⟨rfl, rfl, .inl rfl⟩
 case round =>
  obtain ⟨rfl, rfl, hi⟩ := hrel; rcases hi with rfl | rfl | rfl | rfl | rfl | rfl | rfl | rfl
  all_goals first | (go_wp2; go_round; (case rel => refine ⟨rfl, rfl, ?_⟩; first | exact .inl rfl | exact .inr (.inl rfl) | exact .inr (.inr (.inl rfl)) | exact .inr (.inr (.inr (.inl rfl))) | exact .inr (.inr (.inr (.inr (.inl rfl)))) | exact .inr (.inr (.inr (.inr (.inr (.inl rfl))))) | exact .inr (.inr (.inr (.inr (.inr (.inr (.inl rfl)))))) | exact .inr (.inr (.inr (.inr (.inr (.inr (.inr rfl)))))) | exact .inr rfl); (case measure => simp [intOf])) | (go_wp2; exact HR.out _ HG.out)
end Go.Proofs.YteeeeddeacepmaaGreatDoor
