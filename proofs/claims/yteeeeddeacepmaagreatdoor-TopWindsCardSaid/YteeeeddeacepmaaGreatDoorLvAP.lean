import Derived.Test.YteeeeddeacepmaaGreatDoorLvH
import Derived.Test.YteeeeddeacepmaaGreatDoorLvW
namespace Go.Proofs.YteeeeddeacepmaaGreatDoor
set_option maxRecDepth 100000
open Go.RowKit B
def az : Array Value := #[.int .i64 0, .slice none 0 0, .slice none 0 0]
set_option maxHeartbeats 4000000 in
theorem answer_q (st : Int) (hs : st = 400 ∨ st = 404) (m p k : ByteArray) (g a : Bool) (w : World) {R : Ending -> World -> Prop} (hR : ∀ A c w', Grow w w' -> R (.returned (.agg #[.int .i64 st, .slice A 1 c, .slice none 0 0])) w') :
  Calls Tryz.prog 58 #[.agg #[.string m, .string p, .bool g, .bool a, .slice none 0 0], .slice none 0 0, .string k, .int .i64 st] w R := by
 have HR := Lh hR; clear hR; have t1 : (st == 200) = false := by rcases hs with rfl | rfl <;> rfl
 have t2 : (st == 204) = false := by rcases hs with rfl | rfl <;> rfl
 obtain ⟨wa, hwa⟩ : ∃ wa, wa = (w.alloc (.cells #[.string m, .string p, .bool g, .bool a, .slice none 0 0] 130)).alloc (.cells az 72) := ⟨_, rfl⟩
 have GA : Hid (Grow w wa) := by subst hwa; exact ((Grow.refl _).al _).al _
 have BR : Hid (wa.heap[w.heap.size + 1]? = some (.cells az 72 (0, 0))) := by
  have := heap_alloc_new (w.alloc (.cells #[.string m, .string p, .bool g, .bool a, .slice none 0 0] 130)) (.cells az 72); rw [World.size_alloc] at this; rw [hwa]; exact this
 clear hs; go_enter Tryz.func58, Tryz.ntmps58
 go_upto_region 1 with fail
 rw [show (w.alloc (.cells #[.string m, .string p, .bool g, .bool a, .slice none 0 0] 130)).alloc (.cells #[.int .i64 0, .slice none 0 0, .slice none 0 0] 72) = wa from hwa.symm]; clear hwa; go_wp2_with fail
 go_at_call 85; refine heads_q _ _ _ _ ⟨_, heap_alloc_new wa _⟩ ?_; intro A c w1 hg1; have G1 : Hid (Grow w w1) := (GA.out.al _).tr hg1; have BR1 := Lh (grow_blk hg1 (grow_blk ((Grow.refl wa).al (.cells #[.string ⟨#[67, 111, 110, 116, 101, 110, 116, 45, 76, 101, 110, 103, 116, 104]⟩, .string ⟨#[48]⟩] 9)) BR.out)); clear hg1 BR GA; go_wp2_with (refine wpList_store_row rfl 72 _ _ rfl (w.heap.size + 1) #[.int .i64 st, .slice A 1 c, .slice none 0 0] rfl rfl 72 _ BR1.out (by kernel_rfl) rfl (by simp [Value.oneCell']) ?_)
 refine bodyPost_ret (v := .agg #[.int .i64 st, .slice A 1 c, .slice none 0 0]) ?_ rfl (HR.out A c _ (lv_row G1.out (Nat.le_succ _) _)); exact results_cell_row rfl _ _ (w.heap.size + 1) _ _ _ _ rfl (setRow_heap _ _ _ _ _ _ BR1.out) Tryz.underlying72 rfl (by kernel_rfl)
end Go.Proofs.YteeeeddeacepmaaGreatDoor
namespace Go.Proofs.YteeeeddeacepmaaGreatDoor
set_option maxRecDepth 100000
open Go.RowKit B
theorem cpre_at {s p t : List UInt8} {b : Bool} (ht : Lib.trimPrefix s p = t) (hb : Lib.hasPrefix s p = b) (w : World) {R : Ending -> World -> Prop} (hR : R (.returned (.tuple #[.string ⟨t.toArray⟩, .bool b])) w) :
  Calls Tryz.prog 176 #[.string ⟨s.toArray⟩, .string ⟨p.toArray⟩] w R := by
 subst ht hb; refine (Any.strings_CutPrefix Tryz.laysCutPrefix ⟨s.toArray⟩ ⟨p.toArray⟩ w).mono ?_; rintro e w' ⟨rfl, rfl⟩; exact hR
theorem csuf_at {s p t : List UInt8} {b : Bool} (ht : Lib.trimSuffix s p = t) (hb : Lib.hasSuffix s p = b) (hs : s.length <= 9223372036854775807) (w : World) {R : Ending -> World -> Prop} (hR : R (.returned (.tuple #[.string ⟨t.toArray⟩, .bool b])) w) :
  Calls Tryz.prog 177 #[.string ⟨s.toArray⟩, .string ⟨p.toArray⟩] w R := by
 subst ht hb; refine (Any.strings_CutSuffix Tryz.laysCutSuffix ⟨s.toArray⟩ ⟨p.toArray⟩ w hs).mono ?_; rintro e w' ⟨rfl, rfl⟩; exact hR
theorem results_tctt {fn : Func} {a p b c : Tmp} {t1 : TypeId} (h : fn.results = #[.tmp a, .cell p t1, .tmp b, .tmp c]) (tmps : Array Value) (w : World) (g1 : Nat) (c1 : Array Value) (u1 : TypeId) (f1 : Nat × Nat) (d1 : TypeDesc)
  (hp : tmps.getD p undef = .pointer (some ⟨g1, 0, none⟩)) (hg1 : w.heap[g1]? = some (.cells c1 u1 f1)) {va vb vc : Value} (ha : tmps.getD a undef = va) (hb : tmps.getD b undef = vb) (hc : tmps.getD c undef = vc)
  (hd1 : (match d1 with | .struct _ | .array _ _ => true | _ => false) = true) (hu1 : Tryz.prog.underlying t1 = some d1) (hi1 : (Tryz.prog.info? t1).map (·.size) = some c1.size) :
  (results fn tmps).run Tryz.prog w = .ok (.tuple #[va, .agg c1, vb, vc]) w := by
 have hp' : tmps[p]?.getD undef = .pointer (some ⟨g1, 0, none⟩) := by simpa using hp
 have ha' : tmps[a]?.getD undef = va := by simpa using ha
 have hb' : tmps[b]?.getD undef = vb := by simpa using hb
 have hc' : tmps[c]?.getD undef = vc := by simpa using hc
 simp [results, h, hp', ha', hb', hc', asAddr, run_loadVar_row w g1 u1 t1 c1 f1 d1 hg1 hu1 (by cases d1 <;> first | rfl | simp at hd1) hi1]
def pz : Array Value := #[.int .i64 0, .int .i64 0, .int .i64 0]
def cz : Array Value := #[.string ⟨#[]⟩, .slice none 0 0, .int .i64 0, .int .i64 0, .int .i64 0]
set_option maxHeartbeats 4000000 in
theorem route_q (w : World) {R : Ending -> World -> Prop} (hR : ∀ w', Grow w w' -> R (.returned (.tuple #[.string ⟨#[97]⟩, .agg pz, .bool false, .bool true])) w') :
  Calls Tryz.prog 128 #[.string ⟨#[47, 97, 46, 106, 115, 111, 110]⟩] w R := by
 have HR := Lh hR; clear hR
 obtain ⟨wa, hwa⟩ : ∃ wa, wa = w.alloc (.cells pz 232) := ⟨_, rfl⟩
 have GA : Hid (Grow w wa) := by subst hwa; exact (Grow.refl _).al _
 have BR : Hid (wa.heap[w.heap.size]? = some (.cells pz 232 (0, 0))) := by subst hwa; exact heap_alloc_new w _
 go_enter Tryz.func128, Tryz.ntmps128
 go_upto_region 1 with fail
 rw [show w.alloc (.cells #[.int .i64 0, .int .i64 0, .int .i64 0] 232) = wa from hwa.symm]; clear hwa; go_wp2_with fail
 go_at_call 176; refine cpre_at (s := [47, 97, 46, 106, 115, 111, 110]) (p := [47]) (t := [97, 46, 106, 115, 111, 110]) (b := true) (by decide +kernel) (by decide +kernel) _ ?_; go_wp2_with fail
 go_at_call 177; refine csuf_at (s := [97, 46, 106, 115, 111, 110]) (p := [46, 106, 115, 111, 110]) (t := [97]) (b := true) (by decide +kernel) (by decide +kernel) (by decide) _ ?_; go_wp2_with fail
 go_at_call 72; refine name_a _ ?_; go_wp2_with (refine wpList_store_row rfl 232 _ _ rfl w.heap.size pz rfl rfl 232 _ BR.out (by kernel_rfl) rfl (by simp [pz, Value.oneCell']) ?_)
 refine bodyPost_ret (v := .tuple #[.string ⟨#[97]⟩, .agg pz, .bool false, .bool true]) ?_ rfl (HR.out _ (lv_row GA.out (Nat.le_refl _) _)); exact results_tctt rfl _ _ w.heap.size _ _ _ _ rfl (setRow_heap _ _ _ _ _ _ BR.out) rfl rfl rfl rfl Tryz.underlying232 (by kernel_rfl)
set_option maxHeartbeats 4000000 in
theorem find_nil (s : ByteArray) (w : World) {R : Ending -> World -> Prop} (hR : ∀ w', Grow w w' -> R (.returned (.tuple #[.agg cz, .bool false])) w') :
  Calls Tryz.prog 129 #[.slice none 0 0, .string s] w R := by
 have HR := Lh hR; clear hR
 obtain ⟨wa, hwa⟩ : ∃ wa, wa = w.alloc (.cells cz 117) := ⟨_, rfl⟩
 have GA : Hid (Grow w wa) := by subst hwa; exact (Grow.refl _).al _
 have BR : Hid (wa.heap[w.heap.size]? = some (.cells cz 117 (0, 0))) := by subst hwa; exact heap_alloc_new w _
 go_enter Tryz.func129, Tryz.ntmps129
 go_upto_region 1 with fail
 rw [show w.alloc (.cells #[.string ⟨#[]⟩, .slice none 0 0, .int .i64 0, .int .i64 0, .int .i64 0] 117) = wa from hwa.symm]; clear hwa; go_wp2
 go_loopw [10] (fun i wr => i = .int .i64 0 /\ Hid (wr = wa)) (fun _ _ => 0)
 case atStart => exact ⟨rfl, rfl⟩
 case round =>
  obtain ⟨rfl, hw⟩ := hrel; obtain rfl := hw.out; go_wp2_with (refine wpList_store_row rfl 117 _ _ rfl w.heap.size cz rfl rfl 117 _ BR.out (by kernel_rfl) rfl (by simp [cz, Value.oneCell']) ?_)
  refine bodyPost_ret (v := .tuple #[.agg cz, .bool false]) ?_ rfl (HR.out _ (lv_row GA.out (Nat.le_refl _) _)); exact results_rs rfl _ _ w.heap.size _ _ _ _ rfl (setRow_heap _ _ _ _ _ _ BR.out) rfl rfl Tryz.underlying117 (by kernel_rfl)
set_option maxHeartbeats 4000000 in
theorem content_q (w : World) {R : Ending -> World -> Prop} (hR : ∀ w', Grow w w' -> R (.returned (.tuple #[.slice none 0 0, .string ⟨#[]⟩, .int .i64 404])) w') :
  Calls Tryz.prog 86 #[.slice none 0 0, .slice none 0 0, .string ⟨#[47, 97, 46, 106, 115, 111, 110]⟩] w R := by
 have HR := Lh hR; clear hR; go_enter Tryz.func86, Tryz.ntmps86
 go_wp2_with fail
 go_at_call 128; refine route_q _ ?_; intro w1 hg1; have F1 : Hid ((w1.alloc (.cells pz 232)).heap[w1.heap.size]? = some (.cells pz 232 (0, 0))) := heap_alloc_new w1 _; have G1 : Hid (Grow w ((w1.alloc (.cells pz 232)).setRow w1.heap.size pz)) := hg1.tr (lv_row ((Grow.refl _).al _) (Nat.le_refl _) _); clear hg1; go_wp2_with (refine wpList_store_row rfl 232 _ _ rfl w1.heap.size pz rfl rfl 232 _ F1.out (by kernel_rfl) rfl (by simp [pz, Value.oneCell']) ?_)
 go_at_call 129; refine find_nil _ _ ?_; intro w2 hg2; have F2 : Hid ((w2.alloc (.cells cz 117)).heap[w2.heap.size]? = some (.cells cz 117 (0, 0))) := heap_alloc_new w2 _; have G2 : Hid (Grow w ((w2.alloc (.cells cz 117)).setRow w2.heap.size cz)) := (G1.out.tr hg2).tr (lv_row ((Grow.refl _).al _) (Nat.le_refl _) _); clear hg2 G1 F1; go_wp2_with (refine wpList_store_row rfl 117 _ _ rfl w2.heap.size cz rfl rfl 117 _ F2.out (by kernel_rfl) rfl (by simp [cz, Value.oneCell']) ?_)
 exact HR.out _ G2.out
end Go.Proofs.YteeeeddeacepmaaGreatDoor
