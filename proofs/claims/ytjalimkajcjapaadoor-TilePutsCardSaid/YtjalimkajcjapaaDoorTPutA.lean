/-
  tile.feature: a feature's bytes. tile.feature, walked. tile.Put, walked. The page's example; tile.Find.
-/
import Derived.Test.YtjalimkajcjapaaDoorChecked
import Derived.Test.YtjalimkajcjapaaDoorTDictF
import Derived.Test.YtjalimkajcjapaaDoorTRight
import Derived.Test.YtjalimkajcjapaaDoorPEncA
import Derived.Test.YtjalimkajcjapaaDoorWireA
import Derived.Test.YtjalimkajcjapaaDoorVPut
import Derived.Test.YtjalimkajcjapaaDoorWGet
import Derived.Laws.Rows
import Derived.Deep.Cut
import Derived.Laws.OwnMore
namespace Go.Proofs.YtjalimkajcjapaaDoor
open Go.RowKit B

def IsU8 (w : World) (b : Nat) : Prop := ∃ cur fr, w.heap[b]? = some (.cells cur 5 fr)
/-- bytes that lie somewhere -/
def DatR (w : World) (v : Value) (l : List UInt8) : Prop := Rd w (IsU8 w) 1 v l.length (U8 l)
theorem DatR.tn {D : Nat → Prop} {w w' : World} {v : Value} {l : List UInt8} (h : DatR w v l) (ht : Tn D w w') (hD : ∀ b, IsU8 w b → ¬ D b) : DatR w' v l := by
  have key : ∀ b, IsU8 w b → w'.heap[b]? = w.heap[b]? := fun b hb => ht.block b (by obtain ⟨c, f, e⟩ := hb; exact (Array.getElem?_eq_some_iff.1 e).1) (hD b hb)
  refine (Rd.keep h key).into fun b hb => ?_
  have e := key b hb
  obtain ⟨c, f, e2⟩ := hb
  exact ⟨c, f, e.trans e2⟩
theorem DatR.gr {w w' : World} {v : Value} {l : List UInt8} (h : DatR w v l) (hg : Grow w w') : DatR w' v l := h.tn (D := fun _ => False) (Tn.of hg) fun _ _ h => h
theorem own_block {w : World} {base e size n k : Nat} {v : Value} {xs : List Value} (h : w.ownsRow base e size v n xs) (hk : v.ownBlock = some k) : ∃ cur, w.heap[k]? = some (.cells cur e (0, 0)) := by
  rcases h.2 with ⟨rfl, _⟩ | ⟨g, cap, cur, rfl, _, hg, _⟩
  · simp [Value.ownBlock] at hk
  · simp only [Value.ownBlock, Option.some.injEq] at hk
    exact ⟨cur, hk ▸ hg⟩
theorem DatR.own {w : World} {base : Nat} {v : Value} {l : List UInt8} (h : w.ownsRow base 5 1 v l.length (U8 l)) : DatR w v l :=
  (Rd.own h).into fun b hb => by
    obtain ⟨cur, e⟩ := own_block h hb.symm
    exact ⟨cur, _, e⟩
theorem DatR.nil (w : World) : DatR w (.slice none 0 0) [] := Rd.nil
theorem not_u8 {w : World} {b e : Nat} {cur : Array Value} {fr : Nat × Nat} (h : w.heap[b]? = some (.cells cur e fr)) (he : e ≠ 5) : ¬ IsU8 w b := by
  rintro ⟨c, f, h2⟩
  rw [h] at h2
  simp only [Option.some.injEq, Obj.cells.injEq] at h2
  exact he h2.2.1
theorem not_own {w : World} {base e size n b : Nat} {v : Value} {xs : List Value} (h : w.ownsRow base e size v n xs) (he : e ≠ 5) (hb : IsU8 w b) : v.ownBlock ≠ some b := by
  intro hk
  obtain ⟨cur, e2⟩ := own_block h hk
  exact not_u8 e2 he hb
theorem DSt.off8 {base b : Nat} {d : Dd} {K : List ByteArray} {V : List Val} {w : World} (h : DSt base d K V w) (hb : IsU8 w b) : ¬ d.has b := by
  rintro (rfl | rfl | rfl | e | e)
  · exact not_u8 h.box (by decide) hb
  · obtain ⟨c, f, e⟩ := hb; exact h.ck.ne_box e rfl
  · obtain ⟨c, f, e⟩ := hb; exact h.cv.ne_box e rfl
  · exact not_own h.ok (by decide) hb e
  · exact not_own h.ov (by decide) hb e
theorem DSt.offO {base b e size n k : Nat} {d : Dd} {K : List ByteArray} {V : List Val} {w : World} {v : Value} {xs : List Value} (h : DSt base d K V w) (ho : w.ownsRow b e size v n xs) (e1 : e ≠ 9) (e2 : e ≠ 44) (e3 : e ≠ 59) (hk : v.ownBlock = some k) : ¬ d.has k := by
  rintro (rfl | rfl | rfl | q | q)
  · exact own_ne_box ho h.box e3 hk
  · exact h.ck.ne_own ho hk
  · exact h.cv.ne_own ho hk
  · exact own_ne_own ho h.ok e1 k hk q
  · exact own_ne_own ho h.ov e2 k hk q
theorem DSt.offB {base b e : Nat} {d : Dd} {K : List ByteArray} {V : List Val} {w : World} {cs : Array Value} {fr : Nat × Nat} (h : DSt base d K V w) (ho : w.heap[b]? = some (.cells cs e fr)) (e1 : e ≠ 9) (e2 : e ≠ 44) (e3 : e ≠ 59) : ¬ d.has b := by
  have key : ∀ {k size n e' : Nat} {u : Value} {xs : List Value}, w.ownsRow k e' size u n xs → e' ≠ e → u.ownBlock ≠ some b := fun ho' hne => own_ne_box ho' ho hne
  rintro (rfl | rfl | rfl | q | q)
  · rw [h.box] at ho
    simp only [Option.some.injEq, Obj.cells.injEq] at ho
    exact e3 ho.2.1.symm
  · exact h.ck.ne_box ho rfl
  · exact h.cv.ne_box ho rfl
  · exact key h.ok (Ne.symm e1) q
  · exact key h.ov (Ne.symm e2) q
/-- fields under way: the row is the call's own; the bytes lie elsewhere -/
structure FS (base : Nat) (v : Value) (fs : List Fld) (w : World) : Prop where
  own : w.ownsRow base 51 4 v fs.length (fs.flatMap Fld.cells)
  dat : ∀ f ∈ fs, I64 f.num ∧ I64 f.kind ∧ f.int < 18446744073709551616 ∧ DatR w f.dv f.data
theorem FS.tn {D : Nat → Prop} {base : Nat} {v : Value} {fs : List Fld} {w w' : World} (h : FS base v fs w) (ht : Tn D w w') (h1 : ∀ k, v.ownBlock = some k → ¬ D k) (h2 : ∀ b, IsU8 w b → ¬ D b) : FS base v fs w' :=
  ⟨Tn.own h.own ht h1, fun f hf => ⟨(h.dat f hf).1, (h.dat f hf).2.1, (h.dat f hf).2.2.1, (h.dat f hf).2.2.2.tn ht h2⟩⟩
theorem FS.gr {base : Nat} {v : Value} {fs : List Fld} {w w' : World} (h : FS base v fs w) (hg : Grow w w') : FS base v fs w' := h.tn (D := fun _ => False) (Tn.of hg) (fun _ _ h => h) fun _ _ h => h
theorem FS.dict {b2 base : Nat} {d : Dd} {K : List ByteArray} {V : List Val} {v : Value} {fs : List Fld} {w w' : World} (h : FS base v fs w) (hd : DSt b2 d K V w) (ht : Tn d.has w w') : FS base v fs w' :=
  h.tn ht (fun _ hk => hd.offO h.own (by decide) (by decide) (by decide) hk) fun _ hb => hd.off8 hb
theorem FS.nil (base : Nat) (w : World) : FS base (.slice none 0 0) [] w := ⟨World.ownsRow_nil _ _ _ _, by simp⟩
theorem FS.app {base : Nat} {v v' : Value} {fs gs : List Fld} {w w' : World} (h : FS base v fs w) (hg : w.grownBy w' v.ownBlock) (ho : w'.ownsRow base 51 4 v' (fs ++ gs).length ((fs ++ gs).flatMap Fld.cells))
    (hd : ∀ f ∈ gs, I64 f.num ∧ I64 f.kind ∧ f.int < 18446744073709551616 ∧ DatR w f.dv f.data) : FS base v' (fs ++ gs) w' := by
  have key : ∀ f : Fld, DatR w f.dv f.data → DatR w' f.dv f.data := fun f hf => hf.tn (D := fun k => v.ownBlock = some k) (Tn.by_ hg fun _ e => e) fun b hb e => not_own h.own (by decide) hb e
  refine ⟨ho, fun f hf => ?_⟩
  rcases List.mem_append.1 hf with hf | hf
  · exact ⟨(h.dat f hf).1, (h.dat f hf).2.1, (h.dat f hf).2.2.1, key f (h.dat f hf).2.2.2⟩
  · exact ⟨(hd f hf).1, (hd f hf).2.1, (hd f hf).2.2.1, key f (hd f hf).2.2.2⟩
theorem FS.flds {base : Nat} {v : Value} {fs : List Fld} {w : World} (h : FS base v fs w) : Flds w (fun _ => True) v fs :=
  ⟨(Rd.own h.own).into fun _ _ => trivial, fun f hf => ⟨(h.dat f hf).1, (h.dat f hf).2.1, (h.dat f hf).2.2.1, (h.dat f hf).2.2.2.into fun _ _ => trivial⟩⟩
/-- a result that lies in a cell -/
theorem results_c {fn : Func} {p : Tmp} {t1 : TypeId} (h : fn.results = #[.cell p t1]) (tmps : Array Value) (w : World) (g1 : Nat) (c1 : Array Value) (u1 : TypeId) (f1 : Nat × Nat) (d1 : TypeDesc)
    (hp : tmps.getD p undef = .pointer (some ⟨g1, 0, none⟩)) (hg1 : w.heap[g1]? = some (.cells c1 u1 f1))
    (hd1 : (match d1 with | .struct _ | .array _ _ => true | _ => false) = true) (hu1 : Tryd.prog.underlying t1 = some d1) (hi1 : (Tryd.prog.info? t1).map (·.size) = some c1.size) :
    (results fn tmps).run Tryd.prog w = .ok (.agg c1) w := by
  have hp' : tmps[p]?.getD undef = .pointer (some ⟨g1, 0, none⟩) := by simpa using hp
  simp [results, h, hp', asAddr, run_loadVar_row w g1 u1 t1 c1 f1 d1 hg1 hu1 (by cases d1 <;> first | rfl | simp at hd1) hi1]
set_option maxRecDepth 100000 in
set_option maxHeartbeats 400000 in
theorem bytesField_any (n : Int) (A : Option Addr) (m c : Nat) (w : World) {R : Ending → World → Prop} (hR : ∀ w', Grow w w' → R (.returned (.agg #[.int .i64 n, .int .i64 2, .int .u64 0, .slice A m c])) w') :
    Calls Tryd.prog 15 #[.int .i64 n, .slice A m c] w R := by
  have HR := Lib.hid hR
  clear hR
  have B4 := Lib.hid (BoxH.laid #[.int .i64 n, .int .i64 2, .int .u64 0, .slice A m c] 51 (Grow.refl w))
  go_enter Tryd.func15, Tryd.ntmps15
  go_wp2
  refine bodyPost_ret (results_c rfl _ _ w.heap.size _ _ (0, 0) _ rfl B4.out.2.2 rfl Tryd.underlying51 (by kernel_rfl)) rfl ?_
  exact HR.out _ B4.out.grow
set_option maxRecDepth 100000 in
set_option maxHeartbeats 400000 in
theorem data_any (n : Int) (A : Option Addr) (m c : Nat) (w : World) {R : Ending → World → Prop} (hR : ∀ w', Grow w w' → R (.returned (.agg #[.int .i64 n, .int .i64 2, .int .u64 0, .slice A m c])) w') :
    Calls Tryd.prog 25 #[.int .i64 n, .slice A m c] w R := by
  have HR := Lib.hid hR
  clear hR
  have B4 := Lib.hid (BoxH.laid #[.int .i64 n, .int .i64 2, .int .u64 0, .slice A m c] 51 (Grow.refl w))
  go_enter Tryd.func25, Tryd.ntmps25
  go_wp2
  refine bodyPost_ret (results_c rfl _ _ w.heap.size _ _ (0, 0) _ rfl B4.out.2.2 rfl Tryd.underlying51 (by kernel_rfl)) rfl ?_
  exact HR.out _ B4.out.grow

theorem take_pfx {F : List FtR} {k : Nat} : dKF [] ((F.take k).map FtR.pl) <+: dKF [] (F.map FtR.pl) := by
  have e : F = F.take k ++ F.drop k := (List.take_append_drop k F).symm
  conv => rhs; rw [e, List.map_append]
  unfold dKF
  rw [List.foldl_append]
  exact dKF_pre _ _
theorem take_pfxV {F : List FtR} {k : Nat} : dVF [] ((F.take k).map FtR.pl) <+: dVF [] (F.map FtR.pl) := by
  have e : F = F.take k ++ F.drop k := (List.take_append_drop k F).symm
  conv => rhs; rw [e, List.map_append]
  unfold dVF
  rw [List.foldl_append]
  exact dVF_pre _ _
theorem tags_succ (K : List ByteArray) (V : List Val) {B : List Atr} {j : Nat} (hj : j < B.length) : tagsP K V ((B.take (j + 1)).map Atr.pl) = tagsP K V ((B.take j).map Atr.pl) ++ [((ix K B[j].key : Nat) : Int), ((ix V (plainV B[j].val) : Nat) : Int)] := by
  rw [List.take_succ_eq_append_getElem hj, List.map_append]
  unfold tagsP
  rw [List.flatMap_append]
  rfl
theorem dK_sub (K : List ByteArray) (B : List Atr) (j : Nat) : dK K ((B.take j).map Atr.pl) <+: dK K (B.map Atr.pl) := by
  have e : B = B.take j ++ B.drop j := (List.take_append_drop j B).symm
  conv => rhs; rw [e, List.map_append]
  unfold dK
  rw [List.foldl_append]
  exact dK_pre _ _
theorem dV_sub (V : List Val) (B : List Atr) (j : Nat) : dV V ((B.take j).map Atr.pl) <+: dV V (B.map Atr.pl) := by
  have e : B = B.take j ++ B.drop j := (List.take_append_drop j B).symm
  conv => rhs; rw [e, List.map_append]
  unfold dV
  rw [List.foldl_append]
  exact dV_pre _ _
def fdF (f : FD) (dv : Value) : Fld := ⟨f.num, f.kind, f.int, f.data, dv⟩
theorem fput_all (fs : List Fld) : fs.flatMap fput = (fs.map Fld.fd).flatMap fdput := by rw [List.flatMap_map]; rfl
end Go.Proofs.YtjalimkajcjapaaDoor

namespace Go.Proofs.YtjalimkajcjapaaDoor
open Go.RowKit B

theorem FtR.rd.tn {D : Nat → Prop} {x : FtR} {base : Nat} {w w' : World} (h : x.rd w (· < base)) (ht : Tn D w w') (hD : ∀ j, D j → base ≤ j) : x.rd w' (· < base) := by
  have no : ∀ b, b < base → ¬ D b := fun b hb e => by have := hD b e; omega
  exact ⟨Tn.rd h.1 (by decide) ht no, fun r hr => Tn.rd (h.2.1 r hr) (by decide) ht no, Tn.rd h.2.2 (by decide) ht no⟩
theorem atr_cells {w : World} {S : Nat → Prop} {b o c : Nat} {B : List Atr} (h : Rd w S 4 (.slice (some ⟨b, o, none⟩) B.length c) B.length (Atrs B)) {j : Nat} (hj : j < B.length) : ∀ i u, B[j].cells[i]? = some u → w.cell? ⟨b, o + j * 4 + i, none⟩ = some u := by
  have h := h.lt (by decide)
  obtain ⟨_, A, c', e, _, _, _, k4⟩ := h
  injection e with e1 e2 e3
  obtain ⟨b', o', e4, hb, hc⟩ := k4 (by omega)
  rw [e4] at e1
  injection e1 with e1
  injection e1 with q1 q2
  subst q1 q2
  exact flat_cells Atr.cells_len (Grow.refl w) hb hc hj
theorem u32_ix (n : Nat) (h : n ≤ 4294967295) : IntKind.u32.wrap (n : Int) = n := by rw [IntKind.wrap_u32]; omega
theorem u64_ty (n : Int) (h : 1 ≤ n ∧ n ≤ 3) : IntKind.u64.wrap n = ((n.toNat : Nat) : Int) := by rw [IntKind.wrap_u64]; omega
/-- what a loop over the attributes keeps -/
structure TG (base n0 db : Nat) (d0 : Dd) (Ks : List ByteArray) (Vs : List Val) (lv tv : Value) (fs : List Fld) (ts : List Int) (fb : Nat) (fc : Array Value) (w W : World) : Prop where
  dic : ∃ d, d.db = db ∧ DSt base d Ks Vs W ∧ ∀ x, d.has x → d0.has x ∨ n0 ≤ x
  fld : FS n0 lv fs W
  tag : W.ownsRow n0 72 1 tv ts.length (U32 ts)
  box : W.heap[fb]? = some (.cells fc 41 (0, 0))
  tn : Tn d0.has w W
  sz : n0 ≤ W.heap.size
theorem TG.gr {base n0 db fb : Nat} {d0 : Dd} {Ks : List ByteArray} {Vs : List Val} {lv tv : Value} {fs : List Fld} {ts : List Int} {fc : Array Value} {w W W' : World} (h : TG base n0 db d0 Ks Vs lv tv fs ts fb fc w W) (hg : Grow W W') : TG base n0 db d0 Ks Vs lv tv fs ts fb fc w W' := by
  obtain ⟨d, h1, h2, h3⟩ := h.dic
  exact ⟨⟨d, h1, h2.gr hg, h3⟩, h.fld.gr hg, own_grow h.tag hg, (hg.block _ (lt_of_block h.box)).trans h.box, h.tn.tr (E := d0.has) (Tn.of hg) fun _ _ e => e, Nat.le_trans h.sz hg.size⟩
theorem TG.dict {base n0 db fb : Nat} {d0 d d' : Dd} {Ks Ks' : List ByteArray} {Vs Vs' : List Val} {lv tv : Value} {fs : List Fld} {ts : List Int} {fc : Array Value} {w W W' : World} (h : TG base n0 db d0 Ks Vs lv tv fs ts fb fc w W)
    (hd : DSt base d Ks Vs W) (hn : ∀ x, d.has x → d0.has x ∨ n0 ≤ x) (hw : w.heap.size ≤ n0) (h1 : DSt base d' Ks' Vs' W') (ht : Tn d.has W W') (hdb : d'.db = db) (h2 : ∀ x, d'.has x → d.has x ∨ W.heap.size ≤ x) : TG base n0 db d0 Ks' Vs' lv tv fs ts fb fc w W' := by
  refine ⟨⟨d', hdb, h1, fun x hx => ?_⟩, h.fld.dict hd ht, Tn.own h.tag ht fun k hk => hd.offO h.tag (by decide) (by decide) (by decide) hk, ht.blk h.box (hd.offB h.box (by decide) (by decide) (by decide)), h.tn.tr ht fun j hj e => ?_, Nat.le_trans h.sz ht.size⟩
  · rcases h2 x hx with e | e
    · exact hn x e
    · exact .inr (by have := h.sz; omega)
  · rcases hn j e with e | e
    · exact e
    · omega
/-- tags more -/
theorem TG.tags {base n0 db fb : Nat} {d0 : Dd} {Ks : List ByteArray} {Vs : List Val} {lv tv tv' : Value} {fs : List Fld} {ts us : List Int} {fc : Array Value} {w W W' : World} (h : TG base n0 db d0 Ks Vs lv tv fs ts fb fc w W) (hw : w.heap.size ≤ n0)
    (hg : W.grownBy W' tv.ownBlock) (ho : W'.ownsRow n0 72 1 tv' (ts ++ us).length (U32 (ts ++ us))) : TG base n0 db d0 Ks Vs lv tv' fs (ts ++ us) fb fc w W' := by
  obtain ⟨d, h1, h2, h3⟩ := h.dic
  have ht : Tn (fun k => tv.ownBlock = some k) W W' := Tn.by_ hg fun _ e => e
  refine ⟨⟨d, h1, h2.tn ht fun j hj e => h2.offO h.tag (by decide) (by decide) (by decide) e hj, h3⟩, h.fld.tn ht (fun k hk e => own_ne_own h.fld.own h.tag (by decide) k hk e) (fun b hb e => not_own h.tag (by decide) hb e), ho, ht.blk h.box (fun e => own_ne_box h.tag h.box (by decide) e), h.tn.tr ht fun j hj e => ?_, Nat.le_trans h.sz hg.size⟩
  have := (h.tag.lt j e).1
  omega
/-- fields more -/
theorem TG.flds {base n0 db fb : Nat} {d0 : Dd} {Ks : List ByteArray} {Vs : List Val} {lv lv' tv : Value} {fs gs : List Fld} {ts : List Int} {fc : Array Value} {w W W' : World} (h : TG base n0 db d0 Ks Vs lv tv fs ts fb fc w W) (hw : w.heap.size ≤ n0)
    (hg : W.grownBy W' lv.ownBlock) (ho : W'.ownsRow n0 51 4 lv' (fs ++ gs).length ((fs ++ gs).flatMap Fld.cells)) (hd : ∀ f ∈ gs, I64 f.num ∧ I64 f.kind ∧ f.int < 18446744073709551616 ∧ DatR W f.dv f.data) : TG base n0 db d0 Ks Vs lv' tv (fs ++ gs) ts fb fc w W' := by
  obtain ⟨d, h1, h2, h3⟩ := h.dic
  have ht : Tn (fun k => lv.ownBlock = some k) W W' := Tn.by_ hg fun _ e => e
  refine ⟨⟨d, h1, h2.tn ht fun j hj e => h2.offO h.fld.own (by decide) (by decide) (by decide) e hj, h3⟩, h.fld.app hg ho hd, Tn.own h.tag ht fun k hk e => own_ne_own h.tag h.fld.own (by decide) k hk e, ht.blk h.box (fun e => own_ne_box h.fld.own h.box (by decide) e), h.tn.tr ht fun j hj e => ?_, Nat.le_trans h.sz hg.size⟩
  have := (h.fld.own.lt j e).1
  omega
theorem sim_fld (f : Fld) : [f].flatMap Fld.cells = f.cells := by simp

theorem add_any' (a : Atr) (ha : a.ok) (base : Nat) (d : Dd) (db : Nat) (hdb : d.db = db) (Ks : List ByteArray) (Vs : List Val) (w : World) (h : DSt base d Ks Vs w) (hK : Ks.length ≤ 900000) (hV : Vs.length ≤ 900000) {R : Ending → World → Prop}
    (hR : ∀ d' w', DSt base d' (putL Ks a.key) (putL Vs (plainV a.val)) w' → Tn d.has w w' → d'.db = db → (∀ j, d'.has j → d.has j ∨ w.heap.size ≤ j) →
      R (.returned (.tuple #[.int .i64 ((ix (putL Ks a.key) a.key : Nat) : Int), .int .i64 ((ix (putL Vs (plainV a.val)) (plainV a.val) : Nat) : Int)])) w') :
    Calls Tryd.prog 33 #[.pointer (some ⟨db, 0, none⟩), .agg a.cells.toArray] w R := by
  subst hdb
  exact add_any a ha base d Ks Vs w h hK hV hR

set_option maxRecDepth 100000 in
set_option maxHeartbeats 16000000 in
theorem tfeature_any (f : FtR) (base : Nat) (d : Dd) (Ks : List ByteArray) (Vs : List Val) (w : World) (hd : DSt base d Ks Vs w) (hf : f.rd w (· < base)) (hok : f.ok) (hn : f.B.length ≤ 300) (hK : Ks.length ≤ 90000) (hV : Vs.length ≤ 90000) (hr : rightF f.pl = true) (hle : (encS f.f.ty (f.A.map PRow.l)).length ≤ 1000) (hpt : ∀ r ∈ f.A, r.l.length ≤ 1000) {R : Ending → World → Prop}
    (hR : ∀ r d' w', DSt base d' (dK Ks (f.B.map Atr.pl)) (dV Vs (f.B.map Atr.pl)) w' → w'.ownsRow w.heap.size 5 1 r ((ftP (dK Ks (f.B.map Atr.pl)) (dV Vs (f.B.map Atr.pl)) f.pl).flatMap fdput).length (U8 ((ftP (dK Ks (f.B.map Atr.pl)) (dV Vs (f.B.map Atr.pl)) f.pl).flatMap fdput)) →
      Tn d.has w w' → d'.db = d.db → (∀ x, d'.has x → d.has x ∨ w.heap.size ≤ x) → R (.returned r) w') :
    Calls Tryd.prog 16 #[.pointer (some ⟨d.db, 0, none⟩), .agg f.cells.toArray] w R := by
  have HR := Lib.hid hR
  have OA := Lib.hid hok.atr
  have HID := Lib.hid hok.id
  clear hR hok
  obtain ⟨⟨xh, xi, xt, xp, xv⟩, xA, xB⟩ := f
  obtain ⟨rt1, -, -⟩ := (rightF_iff _).1 hr
  have RA := Lib.hid hf
  obtain ⟨r1, r2, r3⟩ := hf
  dsimp only at r1 r2 r3 OA HID hn hle hpt rt1
  obtain ⟨ty1, -, -, nr⟩ := pright_ok rt1
  have EU := Lib.hid (u64_ty xt ty1)
  have EB : Hid (∀ x ∈ encS xt (xA.map PRow.l), 0 ≤ x ∧ x ≤ 4294967295) := fun x hx => encS_bd _ _ (fun p hp => by obtain ⟨r, hr, rfl⟩ := List.mem_map.1 hp; exact ⟨hpt r hr, (nr r hr).2⟩) x hx
  clear nr hr hpt
  obtain ⟨X1, X2, X3, hx1⟩ := r1.form
  subst hx1
  obtain ⟨Y1, Y2, Y3, hy1⟩ := r3.form
  obtain ⟨_, Y1', Y3', e, y1, y2, y3, y4⟩ := r3
  try dsimp only at hy1 e
  rw [hy1] at e
  injection e with e1 e2 e3
  subst e1 e2 e3 hy1
  unfold maxLen at y2
  unfold FtR.rd at RA
  dsimp only at RA
  have PE := Lib.hid fun W (D : Nat → Prop) (ht : Tn D w W) (hD : ∀ j, D j → base ≤ j) (R : Ending → World → Prop) hR => encodeOk_any xt (.slice X1 X2 X3) xA _ _ W (Tn.rd RA.out.1 (by decide) ht fun b hb e => by have := hD b e; omega) (fun r hr => Tn.rd (RA.out.2.1 r hr) (by decide) ht fun b hb e => by have := hD b e; omega) rt1 hle (R := R) hR
  have AR := Lib.hid fun W (D : Nat → Prop) (ht : Tn D w W) (hD : ∀ j, D j → base ≤ j) => Tn.rd RA.out.2.2 (by decide) ht fun b hb e => by have := hD b e; omega
  have HLE := Lib.hid hle
  have DL := Lib.hid fun j (hj : d.has j) => hd.le hj
  have SUBK := Lib.hid (dK_sub Ks xB)
  have SUBV := Lib.hid (dV_sub Vs xB)
  have LK : Hid (∀ j, (dK Ks ((xB.take j).map Atr.pl)).length ≤ 90000 + j) := fun j => by have := dK_len Ks xB j; omega
  have LV : Hid (∀ j, (dV Vs ((xB.take j).map Atr.pl)).length ≤ 90000 + j) := fun j => by have := dV_len Vs xB j; omega
  have LKf : Hid ((dK Ks (xB.map Atr.pl)).length ≤ 4294967295) := by have := dK_len Ks xB xB.length; rw [List.take_length] at this; show _ ≤ _; omega
  have LVf : Hid ((dV Vs (xB.map Atr.pl)).length ≤ 4294967295) := by have := dV_len Vs xB xB.length; rw [List.take_length] at this; show _ ≤ _; omega
  clear RA r1 r2 y3 y4 hle rt1 hK hV
  have FTP : Hid (ftP (dK Ks (xB.map Atr.pl)) (dV Vs (xB.map Atr.pl)) (FtR.pl ⟨⟨xh, xi, xt, .slice X1 X2 X3, .slice Y1 xB.length Y3⟩, xA, xB⟩) = (if xh then [⟨1, 0, xi, []⟩] else []) ++ (if xB.map Atr.pl = [] then [] else [⟨2, 2, 0, pack (tagsP (dK Ks (xB.map Atr.pl)) (dV Vs (xB.map Atr.pl)) (xB.map Atr.pl))⟩]) ++ [⟨3, 0, xt.toNat, []⟩, ⟨4, 2, 0, pack (encS xt (xA.map PRow.l))⟩]) := rfl
  generalize ftP (dK Ks (xB.map Atr.pl)) (dV Vs (xB.map Atr.pl)) (FtR.pl ⟨⟨xh, xi, xt, .slice X1 X2 X3, .slice Y1 xB.length Y3⟩, xA, xB⟩) = FT at *
  dsimp only at HR
  unfold FtR.cells Ft.cells
  dsimp only
  have T0 : Hid (TG base w.heap.size d.db d Ks Vs (.slice none 0 0) (.slice none 0 0) [] [] w.heap.size #[.bool xh, .int .u64 xi, .int .i64 xt, .slice X1 X2 X3, .slice Y1 xB.length Y3] w (w.alloc (.cells #[.bool xh, .int .u64 xi, .int .i64 xt, .slice X1 X2 X3, .slice Y1 xB.length Y3] 41))) :=
    ⟨⟨d, rfl, hd.gr ((Grow.refl w).al _), fun x hx => .inl hx⟩, FS.nil _ _, World.ownsRow_nil _ _ _ _, heap_alloc_new w _, Tn.of ((Grow.refl w).al _), by rw [World.size_alloc]; omega⟩
  have x0 := cell_of_row _ _ 0 _ _ _ T0.out.box
  have x1 := cell_of_row _ _ 1 _ _ _ T0.out.box
  clear hd
  go_enter Tryd.func16, Tryd.ntmps16
  go_upto_region 2 with fail
  generalize w.alloc (.cells #[.bool xh, .int .u64 xi, .int .i64 xt, .slice X1 X2 X3, .slice Y1 xB.length Y3] 41) = wa at *
  cases xh with
  | true =>
    go_wp2_with (at_builtin; refine wpList_put rfl _ _ rfl el_fld T0.out.fld.own rfl 1 _ rfl _ rfl (by decide) rfl (by simp [Value.oneCell']) (by simp) T0.out.sz ?_; intro v1 w1 hown1 hgr1 hb1; have T1 : Hid (TG base w.heap.size d.db d Ks Vs v1 (.slice none 0 0) ([] ++ [⟨1, 0, xi, [], .slice none 0 0⟩]) [] w.heap.size #[.bool true, .int .u64 xi, .int .i64 xt, .slice X1 X2 X3, .slice Y1 xB.length Y3] w w1) := T0.out.flds (Nat.le_refl _) hgr1 hown1 (fun f hf => by rw [List.mem_singleton.1 hf]; exact ⟨by unfold I64; simp, by unfold I64; simp, HID.out, DatR.nil _⟩); clear hown1 hgr1 hb1 T0 x0 x1; have x4 := cell_of_row _ _ 4 _ _ _ T1.out.box)
    clear x4
    -- T : TG .. with the fields ([] ++ [⟨1, 0, xi, [], .slice none 0 0⟩] : List Fld), the tags [], at the world $W
    have x4 := cell_of_row _ _ 4 _ _ _ T1.out.box
    try go_upto_region 6 with fail
    clear x4
    go_loopw [24, 6] (fun i tv wr => ∃ j : Nat, j ≤ xB.length ∧ i = .int .i64 j ∧ Hid (TG base w.heap.size d.db d (dK Ks ((xB.take j).map Atr.pl)) (dV Vs ((xB.take j).map Atr.pl)) v1 tv ([] ++ [⟨1, 0, xi, [], .slice none 0 0⟩] : List Fld) (tagsP (dK Ks (xB.map Atr.pl)) (dV Vs (xB.map Atr.pl)) ((xB.take j).map Atr.pl)) w.heap.size #[.bool true, .int .u64 xi, .int .i64 xt, .slice X1 X2 X3, .slice Y1 xB.length Y3] w wr)) (fun i _ _ => xB.length - (intOf i).toNat)
    case atStart => exact ⟨0, Nat.zero_le _, rfl, T1.out⟩
    case round =>
      clear T1
      obtain ⟨j, hj, rfl, hT⟩ := hrel
      by_cases hjl : j < xB.length
      · have hrd := AR.out wr _ hT.out.tn DL.out
        obtain ⟨b2, o2, rfl⟩ : ∃ b2 o2, Y1 = some ⟨b2, o2, none⟩ := by
          obtain ⟨_, A, c', e, _, _, _, k4⟩ := hrd
          injection e with e1 e2 e3
          obtain ⟨b', o', e4, _, _⟩ := k4 (by omega)
          exact ⟨b', o', e1.trans e4⟩
        have cl := atr_cells hrd hjl
        have OB := Lib.hid (OA.out xB[j] (List.getElem_mem hjl))
        have TS := Lib.hid (tags_succ (dK Ks (xB.map Atr.pl)) (dV Vs (xB.map Atr.pl)) hjl)
        have SK := Lib.hid (dK_succ Ks hjl)
        have SV := Lib.hid (dV_succ Vs hjl)
        have IK : Hid (ix (dK Ks (xB.map Atr.pl)) xB[j].key = ix (putL (dK Ks ((xB.take j).map Atr.pl)) xB[j].key) xB[j].key) := by
          show _ = _
          rw [← SK.out]
          exact idx_pre (dK_sub Ks xB (j + 1)) (by rw [SK.out]; exact putL_mem _ _)
        have IV : Hid (ix (dV Vs (xB.map Atr.pl)) (plainV xB[j].val) = ix (putL (dV Vs ((xB.take j).map Atr.pl)) (plainV xB[j].val)) (plainV xB[j].val)) := by
          show _ = _
          rw [← SV.out]
          exact idx_pre (dV_sub Vs xB (j + 1)) (by rw [SV.out]; exact putL_mem _ _)
        have NK : Hid (ix (putL (dK Ks ((xB.take j).map Atr.pl)) xB[j].key) xB[j].key ≤ 4294967295) := by
          have h1 := ix_le (putL (dK Ks ((xB.take j).map Atr.pl)) xB[j].key) xB[j].key
          have h2 := putL_len (dK Ks ((xB.take j).map Atr.pl)) xB[j].key
          have h3 := LK.out j
          show _ ≤ _
          omega
        have NV : Hid (ix (putL (dV Vs ((xB.take j).map Atr.pl)) (plainV xB[j].val)) (plainV xB[j].val) ≤ 4294967295) := by
          have h1 := ix_le (putL (dV Vs ((xB.take j).map Atr.pl)) (plainV xB[j].val)) (plainV xB[j].val)
          have h2 := putL_len (dV Vs ((xB.take j).map Atr.pl)) (plainV xB[j].val)
          have h3 := LV.out j
          show _ ≤ _
          omega
        have LK1 := Lib.hid (LK.out j)
        have LV1 := Lib.hid (LV.out j)
        clear hrd
        generalize xB[j] = y at *
        have c0 := cl 0 _ rfl
        have c1 := cl 1 _ rfl
        have c2 := cl 2 _ rfl
        have c3 := cl 3 _ rfl
        simp only [Nat.add_zero] at c0
        clear cl PE AR HR FTP EU EB
        rw [IK.out, IV.out] at TS
        obtain ⟨Q1, Q2, rfl⟩ := own_slice hT.out.tag
        go_wp2_with fail
        go_at_call 33
        obtain ⟨dd, hdb, hD, hN⟩ := hT.out.dic
        refine add_any' y OB.out base dd d.db hdb _ _ _ (hD.gr ((Grow.refl wr).al _)) (by have := LK1.out; omega) (by have := LV1.out; omega) ?_
        intro d' w' hD' hT' hdb' hN'
        have T2 := Lib.hid (TG.dict (hT.out.gr ((Grow.refl wr).al _)) (hD.gr ((Grow.refl wr).al _)) hN (Nat.le_refl _) hD' hT' hdb' hN')
        clear hD hN hdb hD' hT' hdb' hN' hT c0 c1 c2 c3
        have w1 := u32_ix _ NK.out
        have w2 := u32_ix _ NV.out
        have TSL := Lib.hid (tags_len (dK Ks (xB.map Atr.pl)) (dV Vs (xB.map Atr.pl)) ((xB.take j).map Atr.pl))
        rw [List.length_map, List.length_take] at TSL
        generalize tagsP (dK Ks (xB.map Atr.pl)) (dV Vs (xB.map Atr.pl)) ((xB.take j).map Atr.pl) = ts at *
        generalize ix (putL (dK Ks ((xB.take j).map Atr.pl)) y.key) y.key = n1 at *
        generalize ix (putL (dV Vs ((xB.take j).map Atr.pl)) (plainV y.val)) (plainV y.val) = n2 at *
        go_wp2_with (at_builtin; refine wpList_put rfl _ _ rfl el_u32 T2.out.tag rfl 2 _ rfl _ rfl (by decide) rfl (by simp [Value.oneCell']) (by have := TSL.out; omega) T2.out.sz ?_; intro v3 w3 hown3 hgr3 hb3; have T3 := Lib.hid (T2.out.tags (us := [(n1 : Int), (n2 : Int)]) (Nat.le_refl _) hgr3 (own_eq hown3 (by simp) (by simp [U32]))); clear hown3 hgr3 hb3 T2)
        go_roundw
        case rel => exact ⟨j + 1, by omega, by go_num, (by show TG _ _ _ _ _ _ _ _ _ _ _ _ _ _; rw [SK.out, SV.out, TS.out]; exact T3.out)⟩
        case measure => simp [intOf]; omega
      · obtain rfl : j = xB.length := by omega
        rw [List.take_length] at hT
        obtain ⟨Z1, Z2, rfl⟩ := own_slice hT.out.tag
        have TSL := Lib.hid (tags_len (dK Ks (xB.map Atr.pl)) (dV Vs (xB.map Atr.pl)) (xB.map Atr.pl))
        rw [List.length_map] at TSL
        have TB := Lib.hid (tags_bd LKf.out LVf.out (xB.map Atr.pl))
        clear OA LK LV SUBK SUBV AR LKf LVf
        have PL1 : Hid ((pack (encS xt (xA.map PRow.l))).length ≤ 10000) := by show _ ≤ _; have := pack_len (encS xt (xA.map PRow.l)); have := HLE.out; omega
        generalize tagsP (dK Ks (xB.map Atr.pl)) (dV Vs (xB.map Atr.pl)) (xB.map Atr.pl) = ts at *
        generalize dK Ks (xB.map Atr.pl) = K9 at *
        generalize dV Vs (xB.map Atr.pl) = V9 at *
        have PL2 : Hid ((pack ts).length ≤ 10000) := by show _ ≤ _; have := pack_len ts; have := TSL.out; omega
        by_cases hB : xB = []
        · have hz : xB.length = 0 := by rw [hB]; rfl
          have t0 : decide (0 < (ts.length : Int)) = false := decide_eq_false (by have := TSL.out; omega)
          have t1 : decide (0 < ts.length) = false := decide_eq_false (by have := TSL.out; omega)
          clear hz
          have FTP : Hid (FT = (if true then [⟨1, 0, xi, []⟩] else []) ++ [⟨3, 0, xt.toNat, []⟩, ⟨4, 2, 0, pack (encS xt (xA.map PRow.l))⟩]) := by show _ = _; rw [FTP.out, hB]; simp
          clear hB TSL TB
          -- T : TG .. at the end of the loop, fields $FS; z facts
          have z2 := cell_of_row _ _ 2 _ _ _ hT.out.box
          have z3 := cell_of_row _ _ 3 _ _ _ hT.out.box
          try go_wp2_with fail
          go_at_call 35
          refine PE.out _ _ hT.out.tn DL.out _ ?_
          intro gv w4 hO4 hg4
          have T4 := Lib.hid (hT.out.gr hg4)
          have O4 := Lib.hid (Rd.own hO4)
          obtain ⟨G1, G2, rfl⟩ := own_slice hO4
          clear hO4 hg4 z2 z3 hT
          go_upto_region 14 with fail
          have T4 := Lib.hid (T4.out.gr (Grow.refl w4).dr)
          have O4 := Lib.hid (O4.out.gr2 (by decide) (Grow.refl w4).dr)
          refine wp_region_lexT (fun W => W.heap[w.heap.size]? = some (.cells #[.bool true, .int .u64 xi, .int .i64 xt, .slice X1 X2 X3, .slice Y1 xB.length Y3] 41 (0, 0))) (T4.out.box) 9 [0, 1, 2, 3, 4, 5, 6, 7, 8] (by kernel_rfl) (by kernel_rfl) (by intro c a d v w h; cases d <;> exact h) ?_
          generalize w4.drew = w5 at *
          iterate 6 (apply lext_take; exact rfl; exact rfl; (intro W hW; have z2 := cell_of_row W w.heap.size 2 _ _ (0, 0) hW; (try clear hW); go_simp; with_reducible rfl); try simp only [Act.put, List.setIfInBounds_toArray, List.set_cons_zero, List.set_cons_succ])
          apply lext_turn; exact rfl; exact rfl; exact rfl; intro K hK; go_simp; go_at_call 34; refine pack_any (encS xt (xA.map PRow.l)) _ _ _ O4.out HLE.out EB.out ?_
          intro pv w6 hO6 hg6
          have T6 := Lib.hid (T4.out.gr hg6)
          have D6 := Lib.hid (DatR.own hO6)
          obtain ⟨P1, P2, rfl⟩ := own_slice hO6
          refine hK.out _ _ T6.out.box ?_
          clear hK hO6 hg6 T4 O4
          try simp only [Act.put, List.setIfInBounds_toArray, List.set_cons_zero, List.set_cons_succ]
          apply lext_turn; exact rfl; exact rfl; exact rfl; intro K hK; go_simp; go_at_call 15; refine bytesField_any 4 _ _ _ _ ?_
          intro w7 hg7
          have T7 := Lib.hid (T6.out.gr hg7)
          have D7 := Lib.hid (D6.out.gr hg7)
          refine hK.out _ _ T7.out.box ?_
          clear hK hg7 T6 D6
          try simp only [Act.put, List.setIfInBounds_toArray, List.set_cons_zero, List.set_cons_succ]
          apply lext_turn; exact rfl; exact rfl; exact rfl; intro K hK; go_simp; skip
          refine hK.out _ _ (T7.out.gr ((Grow.refl w7).al _)).box ?_
          clear hK
          try simp only [Act.put, List.setIfInBounds_toArray, List.set_cons_zero, List.set_cons_succ]
          refine lext_nil ?_
          simp only [List.drop_succ_cons, List.drop_zero]
          rw [EU.out]
          go_wp2_with (at_builtin; refine wpList_put rfl _ _ rfl el_fld T7.out.fld.own rfl 2 _ rfl _ rfl (by decide) rfl (by simp [Value.oneCell']) (by simp) T7.out.sz ?_; intro v8 w8 hown8 hgr8 hb8; have T8 := Lib.hid (T7.out.flds (gs := [⟨3, 0, xt.toNat, [], .slice none 0 0⟩, ⟨4, 2, 0, pack (encS xt (xA.map PRow.l)), .slice P1 (pack (encS xt (xA.map PRow.l))).length P2⟩]) (Nat.le_refl _) hgr8 (own_eq hown8 (by simp) (by simp [Fld.cells])) (fun f hf => by
            rcases List.mem_cons.1 hf with rfl | hf
            · exact ⟨by unfold I64; simp, by unfold I64; simp, by have := ty1; show xt.toNat < _; omega, DatR.nil _⟩
            · rw [List.mem_singleton.1 hf]; exact ⟨by unfold I64; simp, by unfold I64; simp, by simp, D7.out⟩)); clear hown8 hgr8 hb8 D7 T7)
          go_at_call 18
          refine put_anyD 10000 _ _ _ _ T8.out.fld.flds (by simp) (fun f hf => by (have q1 := PL1.out; have q2 := PL2.out; simp at hf; first | (rcases hf with rfl | rfl | rfl | rfl) | (rcases hf with rfl | rfl | rfl) | (rcases hf with rfl | rfl)) <;> first | exact Nat.zero_le _ | exact q1 | exact q2) ?_
          intro r w9 hO9 hg9
          have T9 := Lib.hid (T8.out.gr hg9)
          have EQ : Hid ((([] ++ [⟨1, 0, xi, [], .slice none 0 0⟩] : List Fld) ++ ([⟨3, 0, xt.toNat, [], .slice none 0 0⟩, ⟨4, 2, 0, pack (encS xt (xA.map PRow.l)), .slice P1 (pack (encS xt (xA.map PRow.l))).length P2⟩] : List Fld)).flatMap fput = FT.flatMap fdput) := by
            show _ = _
            rw [fput_all, FTP.out]
            simp [Fld.fd]
          rw [EQ.out] at hO9
          obtain ⟨d9, hdb9, hD9, hN9⟩ := T9.out.dic
          have FIN := Lib.hid (HR.out r d9 w9 hD9 (own_base hO9 T8.out.sz) T9.out.tn hdb9 hN9)
          clear hO9 hg9 T8 T9 EQ hD9 hN9 HR FTP
          go_wp2
          exact FIN.out
        · have hz : xB.length ≠ 0 := fun e => hB (List.eq_nil_of_length_eq_zero e)
          have t0 : decide (0 < (ts.length : Int)) = true := decide_eq_true (by have := TSL.out; omega)
          have t1 : decide (0 < ts.length) = true := decide_eq_true (by have := TSL.out; omega)
          clear hz
          have FTP : Hid (FT = (if true then [⟨1, 0, xi, []⟩] else []) ++ [⟨2, 2, 0, pack ts⟩] ++ [⟨3, 0, xt.toNat, []⟩, ⟨4, 2, 0, pack (encS xt (xA.map PRow.l))⟩]) := by show _ = _; rw [FTP.out]; simp [hB]
          clear hB
          go_wp2_with fail
          go_at_call 34
          refine pack_any ts _ _ _ (Rd.own hT.out.tag) (by have := TSL.out; omega) TB.out ?_
          intro tb wa1 hOa hga
          have Ta := Lib.hid (hT.out.gr hga)
          have Da := Lib.hid (DatR.own hOa)
          obtain ⟨T1, T2, rfl⟩ := own_slice hOa
          clear hOa hga hT
          go_wp2_with fail
          go_at_call 15
          refine bytesField_any 2 _ _ _ _ ?_
          intro wa2 hga
          have Tb := Lib.hid (Ta.out.gr hga)
          have Db := Lib.hid (Da.out.gr hga)
          clear hga Ta Da
          go_wp2_with (at_builtin; refine wpList_put rfl _ _ rfl el_fld Tb.out.fld.own rfl 1 _ rfl _ rfl (by decide) rfl (by simp [Value.oneCell']) (by simp) Tb.out.sz ?_; intro va3 wa3 hown3 hgr3 hb3; have Tc := Lib.hid (Tb.out.flds (gs := [⟨2, 2, 0, pack ts, .slice T1 (pack ts).length T2⟩]) (Nat.le_refl _) hgr3 (own_eq hown3 (by simp) (by simp [Fld.cells])) (fun f hf => by rw [List.mem_singleton.1 hf]; exact ⟨by unfold I64; simp, by unfold I64; simp, by simp, Db.out⟩)); clear hown3 hgr3 hb3 Tb Db; have z2 := cell_of_row _ _ 2 _ _ _ Tc.out.box; have z3 := cell_of_row _ _ 3 _ _ _ Tc.out.box)
          -- T : TG .. at the end of the loop, fields $FS; z facts
          have z2 := cell_of_row _ _ 2 _ _ _ Tc.out.box
          have z3 := cell_of_row _ _ 3 _ _ _ Tc.out.box
          try go_wp2_with fail
          go_at_call 35
          refine PE.out _ _ Tc.out.tn DL.out _ ?_
          intro gv w4 hO4 hg4
          have T4 := Lib.hid (Tc.out.gr hg4)
          have O4 := Lib.hid (Rd.own hO4)
          obtain ⟨G1, G2, rfl⟩ := own_slice hO4
          clear hO4 hg4 z2 z3 Tc
          go_upto_region 14 with fail
          have T4 := Lib.hid (T4.out.gr (Grow.refl w4).dr)
          have O4 := Lib.hid (O4.out.gr2 (by decide) (Grow.refl w4).dr)
          refine wp_region_lexT (fun W => W.heap[w.heap.size]? = some (.cells #[.bool true, .int .u64 xi, .int .i64 xt, .slice X1 X2 X3, .slice Y1 xB.length Y3] 41 (0, 0))) (T4.out.box) 9 [0, 1, 2, 3, 4, 5, 6, 7, 8] (by kernel_rfl) (by kernel_rfl) (by intro c a d v w h; cases d <;> exact h) ?_
          generalize w4.drew = w5 at *
          iterate 6 (apply lext_take; exact rfl; exact rfl; (intro W hW; have z2 := cell_of_row W w.heap.size 2 _ _ (0, 0) hW; (try clear hW); go_simp; with_reducible rfl); try simp only [Act.put, List.setIfInBounds_toArray, List.set_cons_zero, List.set_cons_succ])
          apply lext_turn; exact rfl; exact rfl; exact rfl; intro K hK; go_simp; go_at_call 34; refine pack_any (encS xt (xA.map PRow.l)) _ _ _ O4.out HLE.out EB.out ?_
          intro pv w6 hO6 hg6
          have T6 := Lib.hid (T4.out.gr hg6)
          have D6 := Lib.hid (DatR.own hO6)
          obtain ⟨P1, P2, rfl⟩ := own_slice hO6
          refine hK.out _ _ T6.out.box ?_
          clear hK hO6 hg6 T4 O4
          try simp only [Act.put, List.setIfInBounds_toArray, List.set_cons_zero, List.set_cons_succ]
          apply lext_turn; exact rfl; exact rfl; exact rfl; intro K hK; go_simp; go_at_call 15; refine bytesField_any 4 _ _ _ _ ?_
          intro w7 hg7
          have T7 := Lib.hid (T6.out.gr hg7)
          have D7 := Lib.hid (D6.out.gr hg7)
          refine hK.out _ _ T7.out.box ?_
          clear hK hg7 T6 D6
          try simp only [Act.put, List.setIfInBounds_toArray, List.set_cons_zero, List.set_cons_succ]
          apply lext_turn; exact rfl; exact rfl; exact rfl; intro K hK; go_simp; skip
          refine hK.out _ _ (T7.out.gr ((Grow.refl w7).al _)).box ?_
          clear hK
          try simp only [Act.put, List.setIfInBounds_toArray, List.set_cons_zero, List.set_cons_succ]
          refine lext_nil ?_
          simp only [List.drop_succ_cons, List.drop_zero]
          rw [EU.out]
          go_wp2_with (at_builtin; refine wpList_put rfl _ _ rfl el_fld T7.out.fld.own rfl 2 _ rfl _ rfl (by decide) rfl (by simp [Value.oneCell']) (by simp) T7.out.sz ?_; intro v8 w8 hown8 hgr8 hb8; have T8 := Lib.hid (T7.out.flds (gs := [⟨3, 0, xt.toNat, [], .slice none 0 0⟩, ⟨4, 2, 0, pack (encS xt (xA.map PRow.l)), .slice P1 (pack (encS xt (xA.map PRow.l))).length P2⟩]) (Nat.le_refl _) hgr8 (own_eq hown8 (by simp) (by simp [Fld.cells])) (fun f hf => by
            rcases List.mem_cons.1 hf with rfl | hf
            · exact ⟨by unfold I64; simp, by unfold I64; simp, by have := ty1; show xt.toNat < _; omega, DatR.nil _⟩
            · rw [List.mem_singleton.1 hf]; exact ⟨by unfold I64; simp, by unfold I64; simp, by simp, D7.out⟩)); clear hown8 hgr8 hb8 D7 T7)
          go_at_call 18
          refine put_anyD 10000 _ _ _ _ T8.out.fld.flds (by simp) (fun f hf => by (have q1 := PL1.out; have q2 := PL2.out; simp at hf; first | (rcases hf with rfl | rfl | rfl | rfl) | (rcases hf with rfl | rfl | rfl) | (rcases hf with rfl | rfl)) <;> first | exact Nat.zero_le _ | exact q1 | exact q2) ?_
          intro r w9 hO9 hg9
          have T9 := Lib.hid (T8.out.gr hg9)
          have EQ : Hid ((([] ++ [⟨1, 0, xi, [], .slice none 0 0⟩] : List Fld) ++ ([⟨2, 2, 0, pack ts, .slice T1 (pack ts).length T2⟩] : List Fld) ++ ([⟨3, 0, xt.toNat, [], .slice none 0 0⟩, ⟨4, 2, 0, pack (encS xt (xA.map PRow.l)), .slice P1 (pack (encS xt (xA.map PRow.l))).length P2⟩] : List Fld)).flatMap fput = FT.flatMap fdput) := by
            show _ = _
            rw [fput_all, FTP.out]
            simp [Fld.fd]
          rw [EQ.out] at hO9
          obtain ⟨d9, hdb9, hD9, hN9⟩ := T9.out.dic
          have FIN := Lib.hid (HR.out r d9 w9 hD9 (own_base hO9 T8.out.sz) T9.out.tn hdb9 hN9)
          clear hO9 hg9 T8 T9 EQ hD9 hN9 HR FTP
          go_wp2
          exact FIN.out
  | false =>
    clear x1
    -- T : TG .. with the fields ([] : List Fld), the tags [], at the world $W
    have x4 := cell_of_row _ _ 4 _ _ _ T0.out.box
    try go_upto_region 6 with fail
    clear x4
    go_loopw [24, 6] (fun i tv wr => ∃ j : Nat, j ≤ xB.length ∧ i = .int .i64 j ∧ Hid (TG base w.heap.size d.db d (dK Ks ((xB.take j).map Atr.pl)) (dV Vs ((xB.take j).map Atr.pl)) (.slice none 0 0) tv ([] : List Fld) (tagsP (dK Ks (xB.map Atr.pl)) (dV Vs (xB.map Atr.pl)) ((xB.take j).map Atr.pl)) w.heap.size #[.bool false, .int .u64 xi, .int .i64 xt, .slice X1 X2 X3, .slice Y1 xB.length Y3] w wr)) (fun i _ _ => xB.length - (intOf i).toNat)
    case atStart => exact ⟨0, Nat.zero_le _, rfl, T0.out⟩
    case round =>
      clear T0
      obtain ⟨j, hj, rfl, hT⟩ := hrel
      by_cases hjl : j < xB.length
      · have hrd := AR.out wr _ hT.out.tn DL.out
        obtain ⟨b2, o2, rfl⟩ : ∃ b2 o2, Y1 = some ⟨b2, o2, none⟩ := by
          obtain ⟨_, A, c', e, _, _, _, k4⟩ := hrd
          injection e with e1 e2 e3
          obtain ⟨b', o', e4, _, _⟩ := k4 (by omega)
          exact ⟨b', o', e1.trans e4⟩
        have cl := atr_cells hrd hjl
        have OB := Lib.hid (OA.out xB[j] (List.getElem_mem hjl))
        have TS := Lib.hid (tags_succ (dK Ks (xB.map Atr.pl)) (dV Vs (xB.map Atr.pl)) hjl)
        have SK := Lib.hid (dK_succ Ks hjl)
        have SV := Lib.hid (dV_succ Vs hjl)
        have IK : Hid (ix (dK Ks (xB.map Atr.pl)) xB[j].key = ix (putL (dK Ks ((xB.take j).map Atr.pl)) xB[j].key) xB[j].key) := by
          show _ = _
          rw [← SK.out]
          exact idx_pre (dK_sub Ks xB (j + 1)) (by rw [SK.out]; exact putL_mem _ _)
        have IV : Hid (ix (dV Vs (xB.map Atr.pl)) (plainV xB[j].val) = ix (putL (dV Vs ((xB.take j).map Atr.pl)) (plainV xB[j].val)) (plainV xB[j].val)) := by
          show _ = _
          rw [← SV.out]
          exact idx_pre (dV_sub Vs xB (j + 1)) (by rw [SV.out]; exact putL_mem _ _)
        have NK : Hid (ix (putL (dK Ks ((xB.take j).map Atr.pl)) xB[j].key) xB[j].key ≤ 4294967295) := by
          have h1 := ix_le (putL (dK Ks ((xB.take j).map Atr.pl)) xB[j].key) xB[j].key
          have h2 := putL_len (dK Ks ((xB.take j).map Atr.pl)) xB[j].key
          have h3 := LK.out j
          show _ ≤ _
          omega
        have NV : Hid (ix (putL (dV Vs ((xB.take j).map Atr.pl)) (plainV xB[j].val)) (plainV xB[j].val) ≤ 4294967295) := by
          have h1 := ix_le (putL (dV Vs ((xB.take j).map Atr.pl)) (plainV xB[j].val)) (plainV xB[j].val)
          have h2 := putL_len (dV Vs ((xB.take j).map Atr.pl)) (plainV xB[j].val)
          have h3 := LV.out j
          show _ ≤ _
          omega
        have LK1 := Lib.hid (LK.out j)
        have LV1 := Lib.hid (LV.out j)
        clear hrd
        generalize xB[j] = y at *
        have c0 := cl 0 _ rfl
        have c1 := cl 1 _ rfl
        have c2 := cl 2 _ rfl
        have c3 := cl 3 _ rfl
        simp only [Nat.add_zero] at c0
        clear cl PE AR HR FTP EU EB
        rw [IK.out, IV.out] at TS
        obtain ⟨Q1, Q2, rfl⟩ := own_slice hT.out.tag
        go_wp2_with fail
        go_at_call 33
        obtain ⟨dd, hdb, hD, hN⟩ := hT.out.dic
        refine add_any' y OB.out base dd d.db hdb _ _ _ (hD.gr ((Grow.refl wr).al _)) (by have := LK1.out; omega) (by have := LV1.out; omega) ?_
        intro d' w' hD' hT' hdb' hN'
        have T2 := Lib.hid (TG.dict (hT.out.gr ((Grow.refl wr).al _)) (hD.gr ((Grow.refl wr).al _)) hN (Nat.le_refl _) hD' hT' hdb' hN')
        clear hD hN hdb hD' hT' hdb' hN' hT c0 c1 c2 c3
        have w1 := u32_ix _ NK.out
        have w2 := u32_ix _ NV.out
        have TSL := Lib.hid (tags_len (dK Ks (xB.map Atr.pl)) (dV Vs (xB.map Atr.pl)) ((xB.take j).map Atr.pl))
        rw [List.length_map, List.length_take] at TSL
        generalize tagsP (dK Ks (xB.map Atr.pl)) (dV Vs (xB.map Atr.pl)) ((xB.take j).map Atr.pl) = ts at *
        generalize ix (putL (dK Ks ((xB.take j).map Atr.pl)) y.key) y.key = n1 at *
        generalize ix (putL (dV Vs ((xB.take j).map Atr.pl)) (plainV y.val)) (plainV y.val) = n2 at *
        go_wp2_with (at_builtin; refine wpList_put rfl _ _ rfl el_u32 T2.out.tag rfl 2 _ rfl _ rfl (by decide) rfl (by simp [Value.oneCell']) (by have := TSL.out; omega) T2.out.sz ?_; intro v3 w3 hown3 hgr3 hb3; have T3 := Lib.hid (T2.out.tags (us := [(n1 : Int), (n2 : Int)]) (Nat.le_refl _) hgr3 (own_eq hown3 (by simp) (by simp [U32]))); clear hown3 hgr3 hb3 T2)
        go_roundw
        case rel => exact ⟨j + 1, by omega, by go_num, (by show TG _ _ _ _ _ _ _ _ _ _ _ _ _ _; rw [SK.out, SV.out, TS.out]; exact T3.out)⟩
        case measure => simp [intOf]; omega
      · obtain rfl : j = xB.length := by omega
        rw [List.take_length] at hT
        obtain ⟨Z1, Z2, rfl⟩ := own_slice hT.out.tag
        have TSL := Lib.hid (tags_len (dK Ks (xB.map Atr.pl)) (dV Vs (xB.map Atr.pl)) (xB.map Atr.pl))
        rw [List.length_map] at TSL
        have TB := Lib.hid (tags_bd LKf.out LVf.out (xB.map Atr.pl))
        clear OA LK LV SUBK SUBV AR LKf LVf
        have PL1 : Hid ((pack (encS xt (xA.map PRow.l))).length ≤ 10000) := by show _ ≤ _; have := pack_len (encS xt (xA.map PRow.l)); have := HLE.out; omega
        generalize tagsP (dK Ks (xB.map Atr.pl)) (dV Vs (xB.map Atr.pl)) (xB.map Atr.pl) = ts at *
        generalize dK Ks (xB.map Atr.pl) = K9 at *
        generalize dV Vs (xB.map Atr.pl) = V9 at *
        have PL2 : Hid ((pack ts).length ≤ 10000) := by show _ ≤ _; have := pack_len ts; have := TSL.out; omega
        by_cases hB : xB = []
        · have hz : xB.length = 0 := by rw [hB]; rfl
          have t0 : decide (0 < (ts.length : Int)) = false := decide_eq_false (by have := TSL.out; omega)
          have t1 : decide (0 < ts.length) = false := decide_eq_false (by have := TSL.out; omega)
          clear hz
          have FTP : Hid (FT = (if false then [⟨1, 0, xi, []⟩] else []) ++ [⟨3, 0, xt.toNat, []⟩, ⟨4, 2, 0, pack (encS xt (xA.map PRow.l))⟩]) := by show _ = _; rw [FTP.out, hB]; simp
          clear hB TSL TB
          -- T : TG .. at the end of the loop, fields $FS; z facts
          have z2 := cell_of_row _ _ 2 _ _ _ hT.out.box
          have z3 := cell_of_row _ _ 3 _ _ _ hT.out.box
          try go_wp2_with fail
          go_at_call 35
          refine PE.out _ _ hT.out.tn DL.out _ ?_
          intro gv w4 hO4 hg4
          have T4 := Lib.hid (hT.out.gr hg4)
          have O4 := Lib.hid (Rd.own hO4)
          obtain ⟨G1, G2, rfl⟩ := own_slice hO4
          clear hO4 hg4 z2 z3 hT
          go_upto_region 14 with fail
          have T4 := Lib.hid (T4.out.gr (Grow.refl w4).dr)
          have O4 := Lib.hid (O4.out.gr2 (by decide) (Grow.refl w4).dr)
          refine wp_region_lexT (fun W => W.heap[w.heap.size]? = some (.cells #[.bool false, .int .u64 xi, .int .i64 xt, .slice X1 X2 X3, .slice Y1 xB.length Y3] 41 (0, 0))) (T4.out.box) 9 [0, 1, 2, 3, 4, 5, 6, 7, 8] (by kernel_rfl) (by kernel_rfl) (by intro c a d v w h; cases d <;> exact h) ?_
          generalize w4.drew = w5 at *
          iterate 6 (apply lext_take; exact rfl; exact rfl; (intro W hW; have z2 := cell_of_row W w.heap.size 2 _ _ (0, 0) hW; (try clear hW); go_simp; with_reducible rfl); try simp only [Act.put, List.setIfInBounds_toArray, List.set_cons_zero, List.set_cons_succ])
          apply lext_turn; exact rfl; exact rfl; exact rfl; intro K hK; go_simp; go_at_call 34; refine pack_any (encS xt (xA.map PRow.l)) _ _ _ O4.out HLE.out EB.out ?_
          intro pv w6 hO6 hg6
          have T6 := Lib.hid (T4.out.gr hg6)
          have D6 := Lib.hid (DatR.own hO6)
          obtain ⟨P1, P2, rfl⟩ := own_slice hO6
          refine hK.out _ _ T6.out.box ?_
          clear hK hO6 hg6 T4 O4
          try simp only [Act.put, List.setIfInBounds_toArray, List.set_cons_zero, List.set_cons_succ]
          apply lext_turn; exact rfl; exact rfl; exact rfl; intro K hK; go_simp; go_at_call 15; refine bytesField_any 4 _ _ _ _ ?_
          intro w7 hg7
          have T7 := Lib.hid (T6.out.gr hg7)
          have D7 := Lib.hid (D6.out.gr hg7)
          refine hK.out _ _ T7.out.box ?_
          clear hK hg7 T6 D6
          try simp only [Act.put, List.setIfInBounds_toArray, List.set_cons_zero, List.set_cons_succ]
          apply lext_turn; exact rfl; exact rfl; exact rfl; intro K hK; go_simp; skip
          refine hK.out _ _ (T7.out.gr ((Grow.refl w7).al _)).box ?_
          clear hK
          try simp only [Act.put, List.setIfInBounds_toArray, List.set_cons_zero, List.set_cons_succ]
          refine lext_nil ?_
          simp only [List.drop_succ_cons, List.drop_zero]
          rw [EU.out]
          go_wp2_with (at_builtin; refine wpList_put rfl _ _ rfl el_fld T7.out.fld.own rfl 2 _ rfl _ rfl (by decide) rfl (by simp [Value.oneCell']) (by simp) T7.out.sz ?_; intro v8 w8 hown8 hgr8 hb8; have T8 := Lib.hid (T7.out.flds (gs := [⟨3, 0, xt.toNat, [], .slice none 0 0⟩, ⟨4, 2, 0, pack (encS xt (xA.map PRow.l)), .slice P1 (pack (encS xt (xA.map PRow.l))).length P2⟩]) (Nat.le_refl _) hgr8 (own_eq hown8 (by simp) (by simp [Fld.cells])) (fun f hf => by
            rcases List.mem_cons.1 hf with rfl | hf
            · exact ⟨by unfold I64; simp, by unfold I64; simp, by have := ty1; show xt.toNat < _; omega, DatR.nil _⟩
            · rw [List.mem_singleton.1 hf]; exact ⟨by unfold I64; simp, by unfold I64; simp, by simp, D7.out⟩)); clear hown8 hgr8 hb8 D7 T7)
          go_at_call 18
          refine put_anyD 10000 _ _ _ _ T8.out.fld.flds (by simp) (fun f hf => by (have q1 := PL1.out; have q2 := PL2.out; simp at hf; first | (rcases hf with rfl | rfl | rfl | rfl) | (rcases hf with rfl | rfl | rfl) | (rcases hf with rfl | rfl)) <;> first | exact Nat.zero_le _ | exact q1 | exact q2) ?_
          intro r w9 hO9 hg9
          have T9 := Lib.hid (T8.out.gr hg9)
          have EQ : Hid ((([] : List Fld) ++ ([⟨3, 0, xt.toNat, [], .slice none 0 0⟩, ⟨4, 2, 0, pack (encS xt (xA.map PRow.l)), .slice P1 (pack (encS xt (xA.map PRow.l))).length P2⟩] : List Fld)).flatMap fput = FT.flatMap fdput) := by
            show _ = _
            rw [fput_all, FTP.out]
            simp [Fld.fd]
          rw [EQ.out] at hO9
          obtain ⟨d9, hdb9, hD9, hN9⟩ := T9.out.dic
          have FIN := Lib.hid (HR.out r d9 w9 hD9 (own_base hO9 T8.out.sz) T9.out.tn hdb9 hN9)
          clear hO9 hg9 T8 T9 EQ hD9 hN9 HR FTP
          go_wp2
          exact FIN.out
        · have hz : xB.length ≠ 0 := fun e => hB (List.eq_nil_of_length_eq_zero e)
          have t0 : decide (0 < (ts.length : Int)) = true := decide_eq_true (by have := TSL.out; omega)
          have t1 : decide (0 < ts.length) = true := decide_eq_true (by have := TSL.out; omega)
          clear hz
          have FTP : Hid (FT = (if false then [⟨1, 0, xi, []⟩] else []) ++ [⟨2, 2, 0, pack ts⟩] ++ [⟨3, 0, xt.toNat, []⟩, ⟨4, 2, 0, pack (encS xt (xA.map PRow.l))⟩]) := by show _ = _; rw [FTP.out]; simp [hB]
          clear hB
          go_wp2_with fail
          go_at_call 34
          refine pack_any ts _ _ _ (Rd.own hT.out.tag) (by have := TSL.out; omega) TB.out ?_
          intro tb wa1 hOa hga
          have Ta := Lib.hid (hT.out.gr hga)
          have Da := Lib.hid (DatR.own hOa)
          obtain ⟨T1, T2, rfl⟩ := own_slice hOa
          clear hOa hga hT
          go_wp2_with fail
          go_at_call 15
          refine bytesField_any 2 _ _ _ _ ?_
          intro wa2 hga
          have Tb := Lib.hid (Ta.out.gr hga)
          have Db := Lib.hid (Da.out.gr hga)
          clear hga Ta Da
          go_wp2_with (at_builtin; refine wpList_put rfl _ _ rfl el_fld Tb.out.fld.own rfl 1 _ rfl _ rfl (by decide) rfl (by simp [Value.oneCell']) (by simp) Tb.out.sz ?_; intro va3 wa3 hown3 hgr3 hb3; have Tc := Lib.hid (Tb.out.flds (gs := [⟨2, 2, 0, pack ts, .slice T1 (pack ts).length T2⟩]) (Nat.le_refl _) hgr3 (own_eq hown3 (by simp) (by simp [Fld.cells])) (fun f hf => by rw [List.mem_singleton.1 hf]; exact ⟨by unfold I64; simp, by unfold I64; simp, by simp, Db.out⟩)); clear hown3 hgr3 hb3 Tb Db; have z2 := cell_of_row _ _ 2 _ _ _ Tc.out.box; have z3 := cell_of_row _ _ 3 _ _ _ Tc.out.box)
          -- T : TG .. at the end of the loop, fields $FS; z facts
          have z2 := cell_of_row _ _ 2 _ _ _ Tc.out.box
          have z3 := cell_of_row _ _ 3 _ _ _ Tc.out.box
          try go_wp2_with fail
          go_at_call 35
          refine PE.out _ _ Tc.out.tn DL.out _ ?_
          intro gv w4 hO4 hg4
          have T4 := Lib.hid (Tc.out.gr hg4)
          have O4 := Lib.hid (Rd.own hO4)
          obtain ⟨G1, G2, rfl⟩ := own_slice hO4
          clear hO4 hg4 z2 z3 Tc
          go_upto_region 14 with fail
          have T4 := Lib.hid (T4.out.gr (Grow.refl w4).dr)
          have O4 := Lib.hid (O4.out.gr2 (by decide) (Grow.refl w4).dr)
          refine wp_region_lexT (fun W => W.heap[w.heap.size]? = some (.cells #[.bool false, .int .u64 xi, .int .i64 xt, .slice X1 X2 X3, .slice Y1 xB.length Y3] 41 (0, 0))) (T4.out.box) 9 [0, 1, 2, 3, 4, 5, 6, 7, 8] (by kernel_rfl) (by kernel_rfl) (by intro c a d v w h; cases d <;> exact h) ?_
          generalize w4.drew = w5 at *
          iterate 6 (apply lext_take; exact rfl; exact rfl; (intro W hW; have z2 := cell_of_row W w.heap.size 2 _ _ (0, 0) hW; (try clear hW); go_simp; with_reducible rfl); try simp only [Act.put, List.setIfInBounds_toArray, List.set_cons_zero, List.set_cons_succ])
          apply lext_turn; exact rfl; exact rfl; exact rfl; intro K hK; go_simp; go_at_call 34; refine pack_any (encS xt (xA.map PRow.l)) _ _ _ O4.out HLE.out EB.out ?_
          intro pv w6 hO6 hg6
          have T6 := Lib.hid (T4.out.gr hg6)
          have D6 := Lib.hid (DatR.own hO6)
          obtain ⟨P1, P2, rfl⟩ := own_slice hO6
          refine hK.out _ _ T6.out.box ?_
          clear hK hO6 hg6 T4 O4
          try simp only [Act.put, List.setIfInBounds_toArray, List.set_cons_zero, List.set_cons_succ]
          apply lext_turn; exact rfl; exact rfl; exact rfl; intro K hK; go_simp; go_at_call 15; refine bytesField_any 4 _ _ _ _ ?_
          intro w7 hg7
          have T7 := Lib.hid (T6.out.gr hg7)
          have D7 := Lib.hid (D6.out.gr hg7)
          refine hK.out _ _ T7.out.box ?_
          clear hK hg7 T6 D6
          try simp only [Act.put, List.setIfInBounds_toArray, List.set_cons_zero, List.set_cons_succ]
          apply lext_turn; exact rfl; exact rfl; exact rfl; intro K hK; go_simp; skip
          refine hK.out _ _ (T7.out.gr ((Grow.refl w7).al _)).box ?_
          clear hK
          try simp only [Act.put, List.setIfInBounds_toArray, List.set_cons_zero, List.set_cons_succ]
          refine lext_nil ?_
          simp only [List.drop_succ_cons, List.drop_zero]
          rw [EU.out]
          go_wp2_with (at_builtin; refine wpList_put rfl _ _ rfl el_fld T7.out.fld.own rfl 2 _ rfl _ rfl (by decide) rfl (by simp [Value.oneCell']) (by simp) T7.out.sz ?_; intro v8 w8 hown8 hgr8 hb8; have T8 := Lib.hid (T7.out.flds (gs := [⟨3, 0, xt.toNat, [], .slice none 0 0⟩, ⟨4, 2, 0, pack (encS xt (xA.map PRow.l)), .slice P1 (pack (encS xt (xA.map PRow.l))).length P2⟩]) (Nat.le_refl _) hgr8 (own_eq hown8 (by simp) (by simp [Fld.cells])) (fun f hf => by
            rcases List.mem_cons.1 hf with rfl | hf
            · exact ⟨by unfold I64; simp, by unfold I64; simp, by have := ty1; show xt.toNat < _; omega, DatR.nil _⟩
            · rw [List.mem_singleton.1 hf]; exact ⟨by unfold I64; simp, by unfold I64; simp, by simp, D7.out⟩)); clear hown8 hgr8 hb8 D7 T7)
          go_at_call 18
          refine put_anyD 10000 _ _ _ _ T8.out.fld.flds (by simp) (fun f hf => by (have q1 := PL1.out; have q2 := PL2.out; simp at hf; first | (rcases hf with rfl | rfl | rfl | rfl) | (rcases hf with rfl | rfl | rfl) | (rcases hf with rfl | rfl)) <;> first | exact Nat.zero_le _ | exact q1 | exact q2) ?_
          intro r w9 hO9 hg9
          have T9 := Lib.hid (T8.out.gr hg9)
          have EQ : Hid ((([] : List Fld) ++ ([⟨2, 2, 0, pack ts, .slice T1 (pack ts).length T2⟩] : List Fld) ++ ([⟨3, 0, xt.toNat, [], .slice none 0 0⟩, ⟨4, 2, 0, pack (encS xt (xA.map PRow.l)), .slice P1 (pack (encS xt (xA.map PRow.l))).length P2⟩] : List Fld)).flatMap fput = FT.flatMap fdput) := by
            show _ = _
            rw [fput_all, FTP.out]
            simp [Fld.fd]
          rw [EQ.out] at hO9
          obtain ⟨d9, hdb9, hD9, hN9⟩ := T9.out.dic
          have FIN := Lib.hid (HR.out r d9 w9 hD9 (own_base hO9 T8.out.sz) T9.out.tn hdb9 hN9)
          clear hO9 hg9 T8 T9 EQ hD9 hN9 HR FTP
          go_wp2
          exact FIN.out
end Go.Proofs.YtjalimkajcjapaaDoor

namespace Go.Proofs.YtjalimkajcjapaaDoor
open Go.RowKit B

theorem dat_bytes (w : World) (s : ByteArray) (hs : s.size ≤ maxLen) : DatR (Lib.bytesWorld w 5 s) (.slice (some ⟨w.heap.size, 0, none⟩) s.size (grownCap w s.size 0 5)) (tx s) := by
  have h := rd_bytes w 5 s hs
  exact h.into fun b hb => ⟨_, _, hb ▸ Lib.bytesWorld_at_new w 5 s⟩
theorem conv_bytes (W : World) (t : ByteArray) : (convert 9 25 (.string t)).run Tryd.prog W = .ok (.slice (some ⟨W.heap.size, 0, none⟩) t.size (grownCap W t.size 0 5)) (Lib.bytesWorld W 5 t) := Lib.run_convert_string_bytes W _ _ _ t Tryd.underlying9 Tryd.underlying25 Tryd.underlying5
/-- what stands while a layer is put -/
structure PS (w : World) (base : Nat) (d : Dd) (Ks : List ByteArray) (Vs : List Val) (ov fv : Value) (outs fs : List Fld) (lb : Nat) (lc : Array Value) (W : World) : Prop where
  le : w.heap.size ≤ base
  dic : DSt base d Ks Vs W
  out : FS w.heap.size ov outs W
  fld : FS w.heap.size fv fs W
  ne : ∀ k, fv.ownBlock = some k → ov.ownBlock ≠ some k
  box : W.heap[lb]? = some (.cells lc 36 (0, 0))
  gr : Grow w W
section
variable {w W W' : World} {base lb : Nat} {d d' : Dd} {Ks Ks' : List ByteArray} {Vs Vs' : List Val} {ov fv : Value} {outs fs : List Fld} {lc : Array Value}
theorem PS.tr (h : PS w base d Ks Vs ov fv outs fs lb lc W) (hg : Grow W W') : PS w base d Ks Vs ov fv outs fs lb lc W' :=
  ⟨h.le, h.dic.gr hg, h.out.gr hg, h.fld.gr hg, h.ne, (hg.block _ (lt_of_block h.box)).trans h.box, h.gr.tr hg⟩
theorem PS.dict (h : PS w base d Ks Vs ov fv outs fs lb lc W) (h1 : DSt base d' Ks' Vs' W') (ht : Tn d.has W W') : PS w base d' Ks' Vs' ov fv outs fs lb lc W' :=
  ⟨h.le, h1, h.out.dict h.dic ht, h.fld.dict h.dic ht, h.ne, ht.blk h.box (h.dic.offB h.box (by decide) (by decide) (by decide)), Tn.gr h.gr ht fun j hj => Nat.le_trans h.le (h.dic.le hj)⟩
theorem PS.app {fv' : Value} {gs : List Fld} {m : Nat} (h : PS w base d Ks Vs ov fv outs fs lb lc W) (hg : W.grownBy W' fv.ownBlock) (ho : W'.ownsRow w.heap.size 51 4 fv' (fs ++ gs).length ((fs ++ gs).flatMap Fld.cells))
    (hb : fv'.ownBlock = fv.ownBlock ∨ fv'.ownBlock = some m) (hm : W.heap.size ≤ m) (hd : ∀ f ∈ gs, I64 f.num ∧ I64 f.kind ∧ f.int < 18446744073709551616 ∧ DatR W f.dv f.data) : PS w base d Ks Vs ov fv' outs (fs ++ gs) lb lc W' := by
  have ht : Tn (fun k => fv.ownBlock = some k) W W' := Tn.by_ hg fun _ e => e
  refine ⟨h.le, h.dic.tn ht fun j hj e => h.dic.offO h.fld.own (by decide) (by decide) (by decide) e hj, h.out.tn ht (fun k hk e => h.ne k e hk) (fun b hb e => not_own h.fld.own (by decide) hb e), h.fld.app hg ho hd, fun k hk e => ?_, ht.blk h.box (fun e => own_ne_box h.fld.own h.box (by decide) e), grow_app h.gr hg (own_ge h.fld.own)⟩
  rcases hb with hb | hb
  · exact h.ne k (hb ▸ hk) e
  · rw [hb] at hk
    injection hk with hk
    have := (h.out.own.lt k e).2
    omega
theorem FS.apps {base : Nat} {v v' : Value} {fs gs : List Fld} {w w' : World} (h : FS base v fs w) (hg : w.grownBy w' v.ownBlock) (ho : w'.ownsRow base 51 4 v' (fs ++ gs).length ((fs ++ gs).flatMap Fld.cells))
    (hd : ∀ f ∈ gs, I64 f.num ∧ I64 f.kind ∧ f.int < 18446744073709551616 ∧ DatR w f.dv f.data) : FS base v' (fs ++ gs) w' := h.app hg ho hd
end
theorem bytes_fld {num : Int} {dat : List UInt8} {dv : Value} {W : World} (hn : 1 ≤ num ∧ num ≤ 15) (h : DatR W dv dat) : ∀ f ∈ [(⟨num, 2, 0, dat, dv⟩ : Fld)], I64 f.num ∧ I64 f.kind ∧ f.int < 18446744073709551616 ∧ DatR W f.dv f.data := by
  intro f hf
  rw [List.mem_singleton.1 hf]
  exact ⟨by unfold I64; dsimp only; omega, by unfold I64; simp, by simp, h⟩

theorem FtR.rd.lt {x : FtR} {w : World} {S : Nat → Prop} (h : x.rd w S) : x.rd w (· < w.heap.size) := ⟨h.1.lt (by decide), fun r hr => (h.2.1 r hr).lt (by decide), h.2.2.lt (by decide)⟩
theorem FtR.rd.to {x : FtR} {w w' : World} {base : Nat} (h : x.rd w (· < w.heap.size)) (hg : Grow w w') (hb : w.heap.size ≤ base) : x.rd w' (· < base) := by
  have h2 := h.gr hg
  exact ⟨h2.1.into fun b hb' => Nat.lt_of_lt_of_le hb' hb, fun r hr => (h2.2.1 r hr).into fun b hb' => Nat.lt_of_lt_of_le hb' hb, h2.2.2.into fun b hb' => Nat.lt_of_lt_of_le hb' hb⟩
theorem tags_ext {K K' : List ByteArray} {V V' : List Val} (hK : K <+: K') (hV : V <+: V') : ∀ l : List AtP, (∀ a ∈ l, a.1 ∈ K ∧ a.2 ∈ V) → tagsP K' V' l = tagsP K V l
  | [], _ => rfl
  | a :: l, h => by
    have ih := tags_ext hK hV l fun b hb => h b (by simp [hb])
    obtain ⟨h1, h2⟩ := h a (by simp)
    show ((ix K' a.1 : Nat) : Int) :: ((ix V' a.2 : Nat) : Int) :: tagsP K' V' l = ((ix K a.1 : Nat) : Int) :: ((ix V a.2 : Nat) : Int) :: tagsP K V l
    rw [ih, idx_pre hK h1, idx_pre hV h2]
theorem ftP_ext {K K' : List ByteArray} {V V' : List Val} (hK : K <+: K') (hV : V <+: V') {f : FtP} (h : ∀ a ∈ f.2.2.2.2, a.1 ∈ K ∧ a.2 ∈ V) : ftP K' V' f = ftP K V f := by
  unfold ftP
  rw [tags_ext hK hV _ h]
theorem own_at {W : World} {base e size n c : Nat} {A : Option Addr} {xs : List Value} (h : W.ownsRow base e size (.slice A n c) n xs) (hn : 0 < n) : ∃ b, A = some ⟨b, 0, none⟩ ∧ ∀ j u, xs[j]? = some u → W.cell? ⟨b, j, none⟩ = some u := by
  have hc := fun g (hg : (Value.slice A n c).ownBlock = some g) => h.cells hg
  rcases h.2 with ⟨e1, _⟩ | ⟨g, cap, cur, e1, _⟩
  · injection e1 with _ e2 _
    omega
  · injection e1 with e2 _ _
    subst e2
    refine ⟨g, rfl, fun j u hu => ?_⟩
    have := hc g rfl j u hu
    rw [Addr.add_lit, Nat.zero_add] at this
    exact this
theorem dV_ok {x : LyR} (hz : LyOkP x.pl) (hok : x.ok) : ∀ v ∈ dVF [] (x.F.map FtR.pl), I64 v.k ∧ U64 v.b ∧ v.t.size ≤ 2000 := by
  refine dVF_all (fun v => I64 v.k ∧ U64 v.b ∧ v.t.size ≤ 2000) _ [] (by simp) fun f hf a ha => ?_
  obtain ⟨g, hg, rfl⟩ := List.mem_map.1 hf
  obtain ⟨b, hb, rfl⟩ := List.mem_map.1 ha
  obtain ⟨h1, h2, h3, h4⟩ := (hz.2.2 _ hf).2.2.2.2 _ ha
  refine ⟨?_, h2, h3⟩
  have := ((hok.ft g hg).atr b hb).2.1
  show I64 (plainV b.val).k
  unfold plainV
  split
  · unfold I64; simp
  · exact this
theorem dK_ok {x : LyR} (hz : LyOkP x.pl) : ∀ k ∈ dKF [] (x.F.map FtR.pl), k.size ≤ 2000 :=
  dKF_all (fun k => k.size ≤ 2000) _ [] (by simp) fun f hf a ha => ((hz.2.2 f hf).2.2.2.2 a ha).1
theorem few_of {x : LyR} (hz : LyOkP x.pl) : Few x.F := by
  refine ⟨?_, fun f hf => ?_⟩
  · have := hz.2.1
    have e : x.pl.2.2.length = x.F.length := List.length_map _
    omega
  · have := (hz.2.2 f.pl (List.mem_map.2 ⟨f, hf, rfl⟩)).2.2.2.1
    have e : (FtR.pl f).2.2.2.2.length = f.B.length := List.length_map _
    omega

set_option maxRecDepth 100000 in
set_option maxHeartbeats 32000000 in
theorem tput_any (lv : Value) (L : List LyR) (S : Nat → Prop) (w : World) (hl : LysRd w S lv L) (hok : ∀ x ∈ L, x.ok) (hT : Tabs w) (hn : L.length ≤ 300) (hz : ∀ x ∈ L, LyOkP x.pl) {R : Ending → World → Prop}
    (hBad : rightT (L.map LyR.pl) = false → ∀ w', Grow w w' → R (.returned (.tuple #[.slice none 0 0, .int .i64 3])) w')
    (hR : rightT (L.map LyR.pl) = true → ∀ r w', w'.ownsRow w.heap.size 5 1 r (putT (L.map LyR.pl)).length (U8 (putT (L.map LyR.pl))) → Grow w w' → R (.returned (.tuple #[r, .int .i64 0])) w') :
    Calls Tryd.prog 6 #[lv] w R := by
  have RI := Lib.hid fun (R : Ending → World → Prop) hR => tright_any lv L S w hl hok hT (fun x hx f hf => by
    have := ((hz x hx).2.2 f.pl (List.mem_map.2 ⟨f, hf, rfl⟩)).2.2.2.1
    have e : (FtR.pl f).2.2.2.2.length = f.B.length := List.length_map _
    omega) (by omega) (R := R) hR
  have HB := Lib.hid hBad
  have HR := Lib.hid hR
  have HZ := Lib.hid hz
  have OK := Lib.hid hok
  have HT := Lib.hid hT
  obtain ⟨hv, hx⟩ := hl
  have HX := Lib.hid hx
  clear hBad hR hz hok hT hx
  have hv := hv.lt (by decide)
  obtain ⟨_, A, c, rfl, h1, h2, h3, h4⟩ := hv
  unfold maxLen at h2
  go_enter Tryd.func6, Tryd.ntmps6
  go_wp2_with fail
  go_at_call 7
  refine RI.out _ ?_
  intro cc w1 hc hg1
  have G1 := Lib.hid hg1
  clear hg1 RI
  cases hcc : rightT (L.map LyR.pl) with
  | false =>
    have FIN := Lib.hid (HB.out hcc w1 G1.out)
    obtain rfl : cc = false := by
      cases cc with
      | false => rfl
      | true => have := hc.1 rfl; rw [hcc] at this; cases this
    clear hc HR HB hcc
    go_wp2
    exact FIN.out
  | true =>
    have RT := Lib.hid (rightT_one hcc)
    have HR := Lib.hid (HR.out hcc)
    obtain rfl : cc = true := hc.2 hcc
    clear hc HB hcc
    go_wp2
    go_loopw [20, 4] (fun i ov wr => ∃ k : Nat, k ≤ L.length ∧ i = .int .i64 k ∧ Hid (∃ outs : List Fld, outs.map Fld.fd = (L.take k).map (fun x => (⟨3, 2, 0, (lyP x.pl).flatMap fdput⟩ : FD)) ∧ FS w.heap.size ov outs wr) ∧ Hid (Grow w wr)) (fun i _ _ => L.length - (intOf i).toNat)
    case atStart => exact ⟨0, Nat.zero_le _, rfl, ⟨[], rfl, FS.nil _ _⟩, G1.out⟩
    case round =>
      clear G1
      obtain ⟨k, hk, rfl, ho, hg⟩ := hrel
      by_cases hlt : k < L.length
      · obtain ⟨b1, o1, rfl, hb1, hc1⟩ := h4 (by omega)
        have e1 := flat_cells LyR.cells_len hg.out hb1 hc1 hlt
        have OX := OK.out L[k] (List.getElem_mem hlt)
        have RX := HX.out L[k] (List.getElem_mem hlt)
        have ZX := HZ.out L[k] (List.getElem_mem hlt)
        have TX := RT.out L[k].pl (List.mem_map.2 ⟨_, List.getElem_mem hlt, rfl⟩)
        have TK : Hid ((L.take (k + 1)).map (fun x => (⟨3, 2, 0, (lyP x.pl).flatMap fdput⟩ : FD)) = (L.take k).map (fun x => (⟨3, 2, 0, (lyP x.pl).flatMap fdput⟩ : FD)) ++ [⟨3, 2, 0, (lyP L[k].pl).flatMap fdput⟩]) := by show _ = _; rw [List.take_succ_eq_append_getElem hlt, List.map_append]; rfl
        clear hc1 h4 h3 HR
        have FW := Lib.hid (few_of ZX)
        have KO := Lib.hid (dK_ok ZX)
        have VO := Lib.hid (dV_ok ZX OX)
        have LL := Lib.hid (lyP_len2 ZX TX.2)
        have LG := Lib.hid (lyP_good ZX TX.1 TX.2)
        generalize L[k] = x at *
        have LY : Hid (lyP x.pl = [⟨1, 2, 0, tx x.nm⟩] ++ x.F.map (fun f => (⟨2, 2, 0, (ftP (dKF [] (x.F.map FtR.pl)) (dVF [] (x.F.map FtR.pl)) f.pl).flatMap fdput⟩ : FD)) ++ (dKF [] (x.F.map FtR.pl)).map (fun k => ⟨3, 2, 0, tx k⟩) ++ (dVF [] (x.F.map FtR.pl)).map (fun v => ⟨4, 2, 0, putV v⟩) ++ [⟨5, 0, x.ext.toNat, []⟩, ⟨15, 0, 2, []⟩]) := by
          show lyP x.pl = _
          unfold lyP lyG LyR.pl
          dsimp only
          rw [List.map_map]
          rfl
        obtain ⟨zx1, zx2, zx3⟩ := ZX
        obtain ⟨tx1, tx2⟩ := TX
        obtain ⟨r1, r2⟩ := RX
        have RF : Hid (∀ f ∈ x.F, f.rd w (· < w.heap.size)) := fun f hf => (r2 f hf).lt
        have OF := Lib.hid OX.ft
        have ZF : Hid (∀ f ∈ x.F, FtOkP f.pl ∧ rightF f.pl = true) := fun f hf => ⟨zx3 _ (List.mem_map.2 ⟨f, hf, rfl⟩), List.all_eq_true.1 tx2 _ (List.mem_map.2 ⟨f, hf, rfl⟩)⟩
        generalize lyP x.pl = LYP at *
        obtain ⟨xn, xe, xv, xF⟩ := x
        have d0 := e1 0 _ rfl
        have d1 := e1 1 _ rfl
        have d2 := e1 2 _ rfl
        simp only [Nat.add_zero] at d0
        dsimp only [LyR.pl] at zx1 tx1 r1 RF OF ZF LY FW KO VO
        have r1 := r1.lt (by decide)
        obtain ⟨_, Y, cy, rfl, y1, y2, y3, y4⟩ := r1
        unfold maxLen at y2
        have EX := Lib.hid (show IntKind.u64.wrap xe = ((xe.toNat : Nat) : Int) by rw [IntKind.wrap_u64]; omega)
        have XE : Hid (xe.toNat < 18446744073709551616) := by show _ < _; omega
        have hcv := conv_bytes
        clear OX zx2 zx3 r2 tx2 e1
        obtain ⟨outs, hom, hF⟩ := ho.out
        obtain ⟨O1, O2, rfl⟩ := own_slice hF.own
        have LO : outs.length ≤ 300 := by
          have := congrArg List.length hom
          simp only [List.length_map, List.length_take] at this
          omega
        rw [← hom] at TK
        clear ho hom
        go_upto_region 7 with fail
        have BL : Hid ((wr.alloc (.cells #[.string xn, .int .i64 xe, .slice Y xF.length cy] 36)).heap[wr.heap.size]? = some (.cells #[.string xn, .int .i64 xe, .slice Y xF.length cy] 36 (0, 0))) := heap_alloc_new wr _
        have F1 := Lib.hid (hF.gr ((Grow.refl wr).al (.cells #[.string xn, .int .i64 xe, .slice Y xF.length cy] 36)))
        have G1 := Lib.hid (hg.out.al (.cells #[.string xn, .int .i64 xe, .slice Y xF.length cy] 36))
        clear d0 d1 d2 hF hg
        generalize wr.alloc (.cells #[.string xn, .int .i64 xe, .slice Y xF.length cy] 36) = wa at *
        generalize wr.heap.size = lb at *
        go_wp2_with fail
        go_at_call 14
        refine newDict_any wa ?_
        intro d0 w2 hD0 hg2
        have P2 : Hid (PS w wa.heap.size d0 [] [] (.slice O1 outs.length O2) (.slice none 0 0) outs [] lb #[.string xn, .int .i64 xe, .slice Y xF.length cy] w2) :=
          ⟨G1.out.size, hD0, F1.out.gr hg2, FS.nil _ _, (fun k e => by cases e), (hg2.block _ (lt_of_block BL.out)).trans BL.out, G1.out.tr hg2⟩
        obtain ⟨db, hdb⟩ : ∃ db, d0.db = db := ⟨_, rfl⟩
        rw [hdb]
        clear hD0 hg2 BL F1 G1
        generalize wa.heap.size = base at *
        have z0 := cell_of_row _ _ 0 _ _ _ P2.out.box
        go_wp2_with fail
        go_at_call 15
        refine bytesField_any 1 _ _ _ _ ?_
        intro w3 hg3
        have P3 := Lib.hid (P2.out.tr ((grow_bytes w2 5 xn).tr hg3))
        have D3 := Lib.hid ((dat_bytes w2 xn (by unfold maxLen; omega)).gr hg3)
        clear hg3 P2 z0
        generalize grownCap w2 xn.size 0 5 = gc at *
        generalize w2.heap.size = wb at *
        clear hcv
        go_upto_region 9 with fail
        have HCV := Lib.hid conv_bytes
        have P4 : Hid (PS w base d0 [] [] (.slice O1 outs.length O2) (.slice (some ⟨w3.heap.size, 0, none⟩) 1 1) outs [⟨1, 2, 0, tx xn, .slice (some ⟨wb, 0, none⟩) xn.size gc⟩] lb #[.string xn, .int .i64 xe, .slice Y xF.length cy] (w3.alloc (.cells #[.int .i64 1, .int .i64 2, .int .u64 0, .slice (some ⟨wb, 0, none⟩) xn.size gc] 51))) := by
          have h := P3.out.tr ((Grow.refl w3).al (.cells #[.int .i64 1, .int .i64 2, .int .u64 0, .slice (some ⟨wb, 0, none⟩) xn.size gc] 51))
          refine ⟨h.le, h.dic, h.out, ⟨?_, ?_⟩, fun k e e2 => ?_, h.box, h.gr⟩
          · exact World.ownsRow_lit (size := 4) w3 #[.int .i64 1, .int .i64 2, .int .u64 0, .slice (some ⟨wb, 0, none⟩) xn.size gc] 1 P3.out.gr.size (by decide) rfl
          · exact bytes_fld (by decide) (D3.out.gr ((Grow.refl w3).al _))
          · have := (P3.out.out.own.lt k e2).2
            simp only [Value.ownBlock, Option.some.injEq] at e
            omega
        clear P3 D3
        generalize w3.alloc (.cells #[.int .i64 1, .int .i64 2, .int .u64 0, .slice (some ⟨wb, 0, none⟩) xn.size gc] 51) = w4 at *
        generalize w3.heap.size = fb0 at *
        have z2 := cell_of_row _ _ 2 _ _ _ P4.out.box
        go_wp2
        clear z2
        go_loopw [33, 8] (fun i fv wr => ∃ j : Nat, j ≤ xF.length ∧ i = .int .i64 j ∧ Hid (∃ d fs, d.db = db ∧ fs.map Fld.fd = [⟨1, 2, 0, tx xn⟩] ++ (xF.take j).map (fun f => (⟨2, 2, 0, (ftP (dKF [] (xF.map FtR.pl)) (dVF [] (xF.map FtR.pl)) f.pl).flatMap fdput⟩ : FD)) ∧
          PS w base d (dKF [] ((xF.take j).map FtR.pl)) (dVF [] ((xF.take j).map FtR.pl)) (.slice O1 outs.length O2) fv outs fs lb #[.string xn, .int .i64 xe, .slice Y xF.length cy] wr)) (fun i _ _ => xF.length - (intOf i).toNat)
        case atStart => exact ⟨0, Nat.zero_le _, rfl, d0, _, hdb, rfl, P4.out⟩
        case round =>
          clear P4
          obtain ⟨j, hj, rfl, hP⟩ := hrel
          by_cases hjl : j < xF.length
          · obtain ⟨b2, o2, rfl, hb2, hc2⟩ := y4 (by omega)
            obtain ⟨dd, fs, hdd, hfs, hps⟩ := hP.out
            have e2 := flat_cells FtR.cells_len hps.gr hb2 hc2 hjl
            have OJ := OF.out xF[j] (List.getElem_mem hjl)
            have RJ := RF.out xF[j] (List.getElem_mem hjl)
            have ZJ := ZF.out xF[j] (List.getElem_mem hjl)
            have NJ := FW.out.2 xF[j] (List.getElem_mem hjl)
            have SK := Lib.hid (dKF_succ hjl)
            have SV := Lib.hid (dVF_succ hjl)
            have LK := FW.out.lenK j
            have LV := FW.out.lenV j
            have EXT : Hid (ftP (dKF [] (xF.map FtR.pl)) (dVF [] (xF.map FtR.pl)) xF[j].pl = ftP (dK (dKF [] ((xF.take j).map FtR.pl)) (xF[j].B.map Atr.pl)) (dV (dVF [] ((xF.take j).map FtR.pl)) (xF[j].B.map Atr.pl)) xF[j].pl) := by
              show _ = _
              rw [← SK.out, ← SV.out]
              refine ftP_ext take_pfx take_pfxV fun a ha => ?_
              rw [SK.out, SV.out]
              exact ⟨fold_mem Prod.fst _ _ a ha, fold_mem Prod.snd _ _ a ha⟩
            have TJ : Hid ((xF.take (j + 1)).map (fun f => (⟨2, 2, 0, (ftP (dKF [] (xF.map FtR.pl)) (dVF [] (xF.map FtR.pl)) f.pl).flatMap fdput⟩ : FD)) = (xF.take j).map (fun f => (⟨2, 2, 0, (ftP (dKF [] (xF.map FtR.pl)) (dVF [] (xF.map FtR.pl)) f.pl).flatMap fdput⟩ : FD)) ++ [⟨2, 2, 0, (ftP (dKF [] (xF.map FtR.pl)) (dVF [] (xF.map FtR.pl)) xF[j].pl).flatMap fdput⟩]) := by
              show _ = _
              rw [List.take_succ_eq_append_getElem hjl, List.map_append]
              rfl
            have FD9 := Lib.hid (ftP_len (K := dKF [] (xF.map FtR.pl)) (V := dVF [] (xF.map FtR.pl)) ZJ.1 ZJ.2)
            have SL : fs.length ≤ 301 := by
              have h1 := congrArg List.length hfs
              have h2 := FW.out.1
              simp only [List.length_append, List.length_map, List.length_take, List.length_singleton] at h1
              omega
            rw [EXT.out] at TJ
            clear hc2 EXT
            generalize xF[j] = y at *
            obtain ⟨X1, X2, X3, X4, X5, X6, hx1, hx2⟩ := RJ.fm
            obtain ⟨zj1, zj2⟩ := ZJ
            obtain ⟨zi1, zi2, zi3, zi4, zi5⟩ := zj1
            have FA := Lib.hid fun W (hg : Grow w W) (hD : DSt base dd (dKF [] ((xF.take j).map FtR.pl)) (dVF [] ((xF.take j).map FtR.pl)) W) (R : Ending → World → Prop) hR => tfeature_any y base dd _ _ W hD (RJ.to hg hps.le) OJ NJ LK LV zj2 zi2 (fun r hr => zi3 r.l (List.mem_map.2 ⟨r, hr, rfl⟩)) (R := R) hR
            obtain ⟨⟨yh, yi, yt, yp, yv⟩, yA, yB⟩ := y
            dsimp only at hx1 hx2
            subst hx1 hx2
            have u0 := e2 0 _ rfl
            have u1 := e2 1 _ rfl
            have u2 := e2 2 _ rfl
            have u3 := e2 3 _ rfl
            have u4 := e2 4 _ rfl
            simp only [Nat.add_zero] at u0
            unfold FtR.cells Ft.cells at FA
            dsimp only at FA SK SV TJ
            rw [hdd] at FA
            clear e2 OJ RJ NJ LK LV zj2 zi1 zi2 zi3 zi4 zi5
            have PP := Lib.hid hps
            have FS1 := Lib.hid hfs
            clear hfs hps hP
            go_upto_region 12 with fail
            have PA := Lib.hid (PP.out.tr ((Grow.refl wr).al (.cells #[.bool yh, .int .u64 yi, .int .i64 yt, .slice X1 X2 X3, .slice X4 X5 X6] 41)))
            have BF : Hid ((wr.alloc (.cells #[.bool yh, .int .u64 yi, .int .i64 yt, .slice X1 X2 X3, .slice X4 X5 X6] 41)).heap[wr.heap.size]? = some (.cells #[.bool yh, .int .u64 yi, .int .i64 yt, .slice X1 X2 X3, .slice X4 X5 X6] 41 (0, 0))) := heap_alloc_new wr _
            clear u0 u1 u2 u3 u4 PP
            generalize wr.alloc (.cells #[.bool yh, .int .u64 yi, .int .i64 yt, .slice X1 X2 X3, .slice X4 X5 X6] 41) = wp at *
            generalize wr.heap.size = bp at *
            have u0 := cell_of_row _ _ 0 _ _ _ BF.out
            have u1 := cell_of_row _ _ 1 _ _ _ BF.out
            have u2 := cell_of_row _ _ 2 _ _ _ BF.out
            have u3 := cell_of_row _ _ 3 _ _ _ BF.out
            have u4 := cell_of_row _ _ 4 _ _ _ BF.out
            go_wp2_with fail
            go_at_call 16
            refine FA.out _ PA.out.gr PA.out.dic _ ?_
            intro r d' w5 hD5 hO5 hT5 hdb5 hN5
            have P5 := Lib.hid (PA.out.dict hD5 hT5)
            have D5 := Lib.hid (DatR.own hO5)
            obtain ⟨R1, R2, rfl⟩ := own_slice hO5
            rw [← SK.out, ← SV.out] at P5
            have DB5 := Lib.hid hdb5
            clear hD5 hO5 hT5 hdb5 hN5 PA BF u0 u1 u2 u3 u4 FA hdd
            go_wp2_with fail
            go_at_call 15
            refine bytesField_any 2 _ _ _ _ ?_
            intro w6 hg6
            have P6 := Lib.hid (P5.out.tr hg6)
            have D6 := Lib.hid (D5.out.gr hg6)
            clear hg6 P5 D5
            go_wp2_with (at_builtin; refine wpList_put rfl _ _ rfl el_fld P6.out.fld.own rfl 1 _ rfl _ rfl (by decide) rfl (by simp [Value.oneCell']) (by omega) P6.out.gr.size ?_; intro v7 w7 hown7 hgr7 hb7; have P7 := Lib.hid (P6.out.app hgr7 (own_eq hown7 (by simp) (by simp [Fld.cells])) hb7 (by omega) (bytes_fld (num := 2) (by decide) D6.out)); clear hown7 hgr7 hb7 P6 D6)
            go_roundw
            case rel => exact ⟨j + 1, by omega, by go_num, d', _, DB5.out, (by rw [List.map_append, FS1.out, TJ.out, List.append_assoc]; rfl), P7.out⟩
            case measure => simp [intOf]; omega
          · obtain rfl : j = xF.length := by omega
            rw [List.take_length] at hP
            obtain ⟨⟨db', ck, cv, kv, vv⟩, fs, hdd, hfs, hps⟩ := hP.out
            dsimp only at hdd
            subst hdd
            obtain ⟨K1, K2, hk1⟩ := own_slice hps.dic.ok
            obtain ⟨V1, V2, hv1⟩ := own_slice hps.dic.ov
            dsimp only at hk1 hv1
            subst hk1 hv1
            have LKf := Lib.hid (FW.out.lenK xF.length)
            have LVf := Lib.hid (FW.out.lenV xF.length)
            have LF := Lib.hid FW.out.1
            rw [List.take_length] at LKf LVf
            have FEL : Hid ((xF.map (fun f => (⟨2, 2, 0, (ftP (dKF [] (xF.map FtR.pl)) (dVF [] (xF.map FtR.pl)) f.pl).flatMap fdput⟩ : FD))).length = xF.length) := List.length_map _
            generalize xF.map (fun f => (⟨2, 2, 0, (ftP (dKF [] (xF.map FtR.pl)) (dVF [] (xF.map FtR.pl)) f.pl).flatMap fdput⟩ : FD)) = FE at *
            generalize dKF [] (xF.map FtR.pl) = Kf at *
            generalize dVF [] (xF.map FtR.pl) = Vf at *
            have PP := Lib.hid hps
            have FS1 := Lib.hid hfs
            have lk := LKf.out
            have lv := LVf.out
            clear hfs hps hP RF OF ZF FW
            have x0 := cell_of_row wr db' 0 _ _ (0, 0) PP.out.dic.box
            go_wp2
            clear x0
            go_loopw [50, 8] (fun i fv wr => ∃ j : Nat, j ≤ Kf.length ∧ i = .int .i64 j ∧ Hid (∃ fs, fs.map Fld.fd = [⟨1, 2, 0, tx xn⟩] ++ FE ++ (Kf.take j).map (fun k => ⟨3, 2, 0, tx k⟩) ∧ PS w base ⟨db', ck, cv, .slice K1 Kf.length K2, .slice V1 Vf.length V2⟩ Kf Vf (.slice O1 outs.length O2) fv outs fs lb #[.string xn, .int .i64 xe, .slice Y xF.length cy] wr)) (fun i _ _ => Kf.length - (intOf i).toNat)
            case atStart => exact ⟨0, Nat.zero_le _, rfl, fs, by rw [FS1.out]; simp, PP.out⟩
            case round =>
              clear PP FS1
              obtain ⟨j, hj, rfl, hP⟩ := hrel
              by_cases hjl : j < Kf.length
              · obtain ⟨fs, hfs, hps⟩ := hP.out
                obtain ⟨b3, hb3, hc3⟩ := own_at hps.dic.ok (by omega)
                subst hb3
                have c0 := hc3 j (.string Kf[j]) (by unfold strs; simp [hjl])
                have TJ : Hid ((Kf.take (j + 1)).map (fun k => (⟨3, 2, 0, tx k⟩ : FD)) = (Kf.take j).map (fun k => (⟨3, 2, 0, tx k⟩ : FD)) ++ [⟨3, 2, 0, tx Kf[j]⟩]) := by
                  show _ = _
                  rw [List.take_succ_eq_append_getElem hjl, List.map_append]
                  rfl
                have SL : fs.length ≤ 90601 := by
                  have h1 := congrArg List.length hfs
                  have h2 := LF.out
                  have h3 := LKf.out
                  have h4 := FEL.out
                  simp only [List.length_append, List.length_map, List.length_take, List.length_singleton] at h1
                  omega
                have SY := KO.out Kf[j] (List.getElem_mem hjl)
                clear hc3
                generalize Kf[j] = y at *
                have PP := Lib.hid hps
                have FS1 := Lib.hid hfs
                have hcv := HCV.out
                clear hfs hps hP
                go_wp2_with fail
                go_at_call 15
                refine bytesField_any 3 _ _ _ _ ?_
                intro w6 hg6
                have P6 := Lib.hid (PP.out.tr ((grow_bytes wr 5 y).tr hg6))
                have D6 := Lib.hid ((dat_bytes wr y (by unfold maxLen; omega)).gr hg6)
                clear hg6 PP c0 hcv
                generalize grownCap wr y.size 0 5 = gc6 at *
                generalize wr.heap.size = wb6 at *
                go_wp2_with (at_builtin; refine wpList_put rfl _ _ rfl el_fld P6.out.fld.own rfl 1 _ rfl _ rfl (by decide) rfl (by simp [Value.oneCell']) (by omega) P6.out.gr.size ?_; intro v7 w7 hown7 hgr7 hb7; have P7 := Lib.hid (P6.out.app hgr7 (own_eq hown7 (by simp) (by simp [Fld.cells])) hb7 (by omega) (bytes_fld (num := 3) (by decide) D6.out)); clear hown7 hgr7 hb7 P6 D6)
                go_roundw
                case rel => exact ⟨j + 1, by omega, by go_num, _, (by rw [List.map_append, FS1.out, TJ.out, ← List.append_assoc]; rfl), P7.out⟩
                case measure => simp [intOf]; omega
              · obtain rfl : j = Kf.length := by omega
                rw [List.take_length] at hP
                obtain ⟨fs, hfs, hps⟩ := hP.out
                have PP := Lib.hid hps
                have FS1 := Lib.hid hfs
                clear hfs hps hP
                have x0 := cell_of_row wr db' 1 _ _ (0, 0) PP.out.dic.box
                go_wp2
                clear x0
                go_loopw [66, 8] (fun i fv wr => ∃ j : Nat, j ≤ Vf.length ∧ i = .int .i64 j ∧ Hid (∃ fs, fs.map Fld.fd = [⟨1, 2, 0, tx xn⟩] ++ FE ++ Kf.map (fun k => ⟨3, 2, 0, tx k⟩) ++ (Vf.take j).map (fun v => ⟨4, 2, 0, putV v⟩) ∧ PS w base ⟨db', ck, cv, .slice K1 Kf.length K2, .slice V1 Vf.length V2⟩ Kf Vf (.slice O1 outs.length O2) fv outs fs lb #[.string xn, .int .i64 xe, .slice Y xF.length cy] wr)) (fun i _ _ => Vf.length - (intOf i).toNat)
                case atStart => exact ⟨0, Nat.zero_le _, rfl, fs, by rw [FS1.out]; simp, PP.out⟩
                case round =>
                  clear PP FS1
                  obtain ⟨j, hj, rfl, hP⟩ := hrel
                  obtain ⟨fs, hfs, hps⟩ := hP.out
                  by_cases hjl : j < Vf.length
                  · obtain ⟨b3, hb3, hc3⟩ := own_at hps.dic.ov (by omega)
                    subst hb3
                    have cl : ∀ i u, Vf[j].cells[i]? = some u → wr.cell? ⟨b3, j * 3 + i, none⟩ = some u := fun i u h => hc3 (j * 3 + i) u (by
                      have hi : i < 3 := by have := (List.getElem?_eq_some_iff.1 h).1; rwa [Val.cells_len] at this
                      unfold Vals
                      rw [flat_at Val.cells 3 Val.cells_len Vf j i hjl hi]
                      exact h)
                    have TJ : Hid ((Vf.take (j + 1)).map (fun v => (⟨4, 2, 0, putV v⟩ : FD)) = (Vf.take j).map (fun v => (⟨4, 2, 0, putV v⟩ : FD)) ++ [⟨4, 2, 0, putV Vf[j]⟩]) := by
                      show _ = _
                      rw [List.take_succ_eq_append_getElem hjl, List.map_append]
                      rfl
                    have SL : fs.length ≤ 180901 := by
                      have h1 := congrArg List.length hfs
                      have h2 := LF.out
                      have h3 := LKf.out
                      have h4 := FEL.out
                      have h5 := LVf.out
                      simp only [List.length_append, List.length_map, List.length_take, List.length_singleton] at h1
                      omega
                    obtain ⟨sy1, sy2, sy3⟩ := VO.out Vf[j] (List.getElem_mem hjl)
                    clear hc3
                    generalize Vf[j] = y at *
                    have c0 := cl 0 _ rfl
                    have c1 := cl 1 _ rfl
                    have c2 := cl 2 _ rfl
                    simp only [Nat.add_zero] at c0
                    have VP := Lib.hid fun W (hg : Grow w W) (R : Ending → World → Prop) hR => vput_any y sy1 sy2 sy3 W (HT.out.gr hg) (R := R) hR
                    unfold Val.v at VP
                    have PP := Lib.hid hps
                    have FS1 := Lib.hid hfs
                    clear hfs hps hP cl
                    go_wp2_with fail
                    go_at_call 17
                    refine VP.out _ (PP.out.gr.al _) _ ?_
                    intro r w5 hO5 hg5
                    have P5 := Lib.hid (PP.out.tr (((Grow.refl wr).al _).tr hg5))
                    have D5 := Lib.hid (DatR.own hO5)
                    obtain ⟨R1, R2, rfl⟩ := own_slice hO5
                    clear hO5 hg5 PP VP c0 c1 c2
                    go_wp2_with fail
                    go_at_call 15
                    refine bytesField_any 4 _ _ _ _ ?_
                    intro w6 hg6
                    have P6 := Lib.hid (P5.out.tr hg6)
                    have D6 := Lib.hid (D5.out.gr hg6)
                    clear hg6 P5 D5
                    go_wp2_with (at_builtin; refine wpList_put rfl _ _ rfl el_fld P6.out.fld.own rfl 1 _ rfl _ rfl (by decide) rfl (by simp [Value.oneCell']) (by omega) P6.out.gr.size ?_; intro v7 w7 hown7 hgr7 hb7; have P7 := Lib.hid (P6.out.app hgr7 (own_eq hown7 (by simp) (by simp [Fld.cells])) hb7 (by omega) (bytes_fld (num := 4) (by decide) D6.out)); clear hown7 hgr7 hb7 P6 D6)
                    go_roundw
                    case rel => exact ⟨j + 1, by omega, by go_num, _, (by rw [List.map_append, FS1.out, TJ.out, ← List.append_assoc]; rfl), P7.out⟩
                    case measure => simp [intOf]; omega
                  · obtain rfl : j = Vf.length := by omega
                    rw [List.take_length] at hfs
                    have PP := Lib.hid hps
                    have FS1 := Lib.hid hfs
                    have SL : fs.length ≤ 180901 := by
                      have h1 := congrArg List.length hfs
                      have h2 := LF.out
                      have h3 := LKf.out
                      have h4 := FEL.out
                      have h5 := LVf.out
                      simp only [List.length_append, List.length_map, List.length_singleton] at h1
                      omega
                    clear hfs hps hP
                    have z1 := cell_of_row _ _ 1 _ _ _ PP.out.box
                    have ex := EX.out
                    go_wp2_with (at_builtin; refine wpList_put rfl _ _ rfl el_fld PP.out.fld.own rfl 2 _ rfl _ rfl (by decide) rfl (by simp [Value.oneCell']) (by omega) PP.out.gr.size ?_; intro v7 w7 hown7 hgr7 hb7; have P7 := Lib.hid (PP.out.app (gs := [⟨5, 0, xe.toNat, [], .slice none 0 0⟩, ⟨15, 0, 2, [], .slice none 0 0⟩]) hgr7 (own_eq hown7 (by simp) (by simp [Fld.cells])) hb7 (by omega) (fun f hf => by
                      rcases List.mem_cons.1 hf with rfl | hf
                      · exact ⟨by unfold I64; simp, by unfold I64; simp, XE.out, DatR.nil _⟩
                      · rw [List.mem_singleton.1 hf]; exact ⟨by unfold I64; simp, by unfold I64; simp, by simp, DatR.nil _⟩)); clear hown7 hgr7 hb7 PP z1)
                    have FS7 : (fs ++ ([⟨5, 0, xe.toNat, [], .slice none 0 0⟩, ⟨15, 0, 2, [], .slice none 0 0⟩] : List Fld)).map Fld.fd = LYP := by rw [List.map_append, FS1.out, LY.out]; rfl
                    have EQ : Hid ((fs ++ ([⟨5, 0, xe.toNat, [], .slice none 0 0⟩, ⟨15, 0, 2, [], .slice none 0 0⟩] : List Fld)).flatMap fput = LYP.flatMap fdput) := by show _ = _; rw [fput_all, FS7]
                    have WP := Lib.hid fun (R : Ending → World → Prop) hR => put_anyD 50000 (fs ++ ([⟨5, 0, xe.toNat, [], .slice none 0 0⟩, ⟨15, 0, 2, [], .slice none 0 0⟩] : List Fld)) _ _ w7 P7.out.fld.flds (by simp only [List.length_append, List.length_cons, List.length_nil]; omega) (fun f hf => by
                      have : f.fd ∈ LYP := FS7 ▸ List.mem_map.2 ⟨f, hf, rfl⟩
                      exact (LG.out.1 _ this).2) (R := R) hR
                    rw [EQ.out] at WP
                    clear FS7 EQ FS1 LY
                    go_at_call 18
                    refine WP.out _ ?_
                    intro r w8 hO8 hg8
                    have P8 := Lib.hid (P7.out.tr hg8)
                    have D8 := Lib.hid (DatR.own hO8)
                    obtain ⟨R1, R2, rfl⟩ := own_slice hO8
                    clear hO8 hg8 WP P7
                    go_wp2_with fail
                    go_at_call 15
                    refine bytesField_any 3 _ _ _ _ ?_
                    intro w9 hg9
                    have P9 := Lib.hid (P8.out.tr hg9)
                    have D9 := Lib.hid (D8.out.gr hg9)
                    clear hg9 P8 D8
                    go_wp2_with (at_builtin; refine wpList_put rfl _ _ rfl el_fld P9.out.out.own rfl 1 _ rfl _ rfl (by decide) rfl (by simp [Value.oneCell']) (by omega) P9.out.gr.size ?_; intro va wb9 hown7 hgr7 hb7; have FA := Lib.hid (P9.out.out.apps hgr7 (own_eq hown7 (by simp) (by simp [Fld.cells])) (bytes_fld (num := 3) (by decide) D9.out)); have GA : Hid (Grow w wb9) := grow_app P9.out.gr hgr7 (own_ge P9.out.out.own); clear hown7 hgr7 hb7 P9 D9)
                    go_roundw
                    case rel => exact ⟨k + 1, by omega, by go_num, ⟨_, (by rw [List.map_append, TK.out]; rfl), FA.out⟩, GA.out⟩
                    case measure => simp [intOf]; omega
      · obtain rfl : k = L.length := by omega
        rw [List.take_length] at ho
        obtain ⟨outs, he, hF⟩ := ho.out
        have LN : outs.length ≤ 300 := by
          have := congrArg List.length he
          rw [List.length_map, List.length_map] at this
          omega
        have EQ : Hid (outs.flatMap fput = putT (L.map LyR.pl)) := by
          show _ = _
          rw [fput_all, he]
          unfold putT
          rw [List.map_map]
          rfl
        have DB : ∀ f ∈ outs, f.data.length ≤ 500000000 := by
          intro f hf
          have : f.fd ∈ outs.map Fld.fd := List.mem_map.2 ⟨f, hf, rfl⟩
          rw [he] at this
          obtain ⟨x, hx, e⟩ := List.mem_map.1 this
          have hd : f.data = (lyP x.pl).flatMap fdput := by
            have := congrArg FD.data e
            exact this.symm
          rw [hd]
          exact lyP_len2 (HZ.out x hx) (RT.out x.pl (List.mem_map.2 ⟨x, hx, rfl⟩)).2
        have WP := Lib.hid fun (R : Ending → World → Prop) hR => put_anyD 500000000 outs _ _ wr hF.flds (by omega) DB (R := R) hR
        rw [EQ.out] at WP
        clear ho he hF LN EQ DB
        go_wp2_with fail
        go_at_call 18
        refine WP.out _ ?_
        intro r w9 hO9 hg9
        have FIN := Lib.hid (HR.out r w9 (own_base hO9 hg.out.size) (hg.out.tr hg9))
        clear hO9 hg9 WP HR
        go_wp2
        exact FIN.out
end Go.Proofs.YtjalimkajcjapaaDoor

namespace Go.Proofs.YtjalimkajcjapaaDoor
open Go.RowKit B

def exL : LyR := ⟨⟨#[97]⟩, 4096, .slice none 0 0, []⟩
theorem ex_right : rightT ([exL].map LyR.pl) = true := by kernel_rfl
theorem ex_put : putT ([exL].map LyR.pl) = [26, 8, 10, 1, 97, 40, 128, 32, 120, 2] := by kernel_rfl
theorem str_u8t {w : World} {S : Nat → Prop} {v : Value} {l : List UInt8} (h : Rd w S 1 v l.length (U8 l)) : (convert 25 9 v).run Tryd.prog w = .ok (.string ⟨l.toArray⟩) w :=
  run_str _ _ 5 Tryd.underlying25 Tryd.underlying5 Tryd.underlying9 h

set_option maxRecDepth 100000 in
set_option maxHeartbeats 200000 in
theorem code10_any (e : Int) (w : World) {R : Ending → World → Prop} (hR : R (.returned (.int .i64 e)) w) : Calls Tryd.prog 9 #[.int .i64 e] w R := by
  have HR := Lib.hid hR
  clear hR
  go_enter Tryd.func9, Tryd.ntmps9
  go_wp2
  exact HR.out

set_option maxRecDepth 100000 in
set_option maxHeartbeats 1000000 in
theorem live10_any (w : World) (hT : Tabs w) {R : Ending → World → Prop} (hR : ∀ w', Grow w w' → R (.returned (.bool true)) w') :
    Calls Tryd.prog 5 #[] w R := by
  have HR := Lib.hid hR
  have G0 := Lib.hid ((Grow.refl w).al (.cells #[.string ⟨#[97]⟩, .int .i64 4096, .slice none 0 0] 36))
  have LR : LysRd (w.alloc (.cells #[.string ⟨#[97]⟩, .int .i64 4096, .slice none 0 0] 36)) (fun b => b = w.heap.size) (.slice (some ⟨w.heap.size, 0, none⟩) 1 1) [exL] := by
    refine ⟨Rd.lit (size := 3) w #[.string ⟨#[97]⟩, .int .i64 4096, .slice none 0 0] 36 1 (by decide) rfl, fun x hx => ?_⟩
    rw [List.mem_singleton.1 hx]
    exact ⟨Rd.nil, fun f hf => by cases hf⟩
  have PU := Lib.hid fun (R : Ending → World → Prop) h1 h2 => tput_any (.slice (some ⟨w.heap.size, 0, none⟩) 1 1) [exL] _ _ LR (fun x hx => by rw [List.mem_singleton.1 hx]; exact ⟨by decide, by unfold exL I64; simp, fun f hf => by cases hf⟩) (hT.gr G0.out) (by decide) (fun x hx => by rw [List.mem_singleton.1 hx]; exact ⟨by decide, by decide, fun f hf => by cases hf⟩) (R := R) h1 h2
  rw [ex_right, ex_put] at PU
  clear hR hT LR
  go_enter Tryd.func5, Tryd.ntmps5
  go_wp2_with fail
  go_at_call 6
  refine PU.out _ (fun h => by cases h) (fun _ => ?_)
  intro r w1 hO hg
  have G1 := Lib.hid (G0.out.tr hg)
  have hc := str_u8t (l := [26, 8, 10, 1, 97, 40, 128, 32, 120, 2]) (Rd.own hO)
  clear hO hg PU
  go_wp2_with fail
  go_at_call 9
  refine code10_any _ _ ?_
  go_wp2
  exact HR.out _ G1.out

theorem BoxH.row {w0 W : World} {bb : Nat} {cs cs' : Array Value} {t : TypeId} (h : BoxH w0 bb cs t W) : BoxH w0 bb cs' t (W.setRow bb cs') :=
  ⟨⟨h.1.os, h.1.tape, h.1.output, by rw [setRow_size]; exact h.1.size, fun k hk => by rw [setRow_other _ _ _ _ (by have := h.2.1; omega)]; exact h.1.block k hk⟩, h.2.1, setRow_heap W bb cs cs' t (0, 0) h.2.2⟩
theorem results_ct {fn : Func} {p s : Tmp} {t1 : TypeId} (h : fn.results = #[.cell p t1, .tmp s]) (tmps : Array Value) (w : World) (g1 : Nat) (c1 : Array Value) (u1 : TypeId) (f1 : Nat × Nat) (d1 : TypeDesc)
    (hp : tmps.getD p undef = .pointer (some ⟨g1, 0, none⟩)) (hg1 : w.heap[g1]? = some (.cells c1 u1 f1)) {v : Value} (hv : tmps.getD s undef = v)
    (hd1 : (match d1 with | .struct _ | .array _ _ => true | _ => false) = true) (hu1 : Tryd.prog.underlying t1 = some d1) (hi1 : (Tryd.prog.info? t1).map (·.size) = some c1.size) :
    (results fn tmps).run Tryd.prog w = .ok (.tuple #[.agg c1, v]) w := by
  have hp' : tmps[p]?.getD undef = .pointer (some ⟨g1, 0, none⟩) := by simpa using hp
  have hv' : tmps[s]?.getD undef = v := by simpa using hv
  simp [results, h, hp', hv', asAddr, run_loadVar_row w g1 u1 t1 c1 f1 d1 hg1 hu1 (by cases d1 <;> first | rfl | simp at hd1) hi1]
/-- the first of a name -/
def findL (s : ByteArray) : List LyR → Option LyR
  | [] => none
  | x :: l => if x.nm = s then some x else findL s l
def zeroLy : LyR := ⟨⟨#[]⟩, 0, .slice none 0 0, []⟩
theorem findL_drop {L : List LyR} {s : ByteArray} {k : Nat} (hk : k < L.length) : findL s (L.drop k) = if L[k].nm = s then some L[k] else findL s (L.drop (k + 1)) := by
  rw [List.drop_eq_getElem_cons hk]
  rfl
end Go.Proofs.YtjalimkajcjapaaDoor
