/-
  Tiles got of bytes: values of bytes; what a prefix of a message's fields says; rows that lie apart from a box. Tiles got of bytes: what a layer's keys, values and features under way keep. Tiles got of bytes: a layer (tile.layer), walked.
-/
import Derived.Test.YtjalimkajcjapaaDoorChecked
import Derived.Test.YtjalimkajcjapaaDoorTFeatW
import Derived.Test.YtjalimkajcjapaaDoorVGet
import Derived.Deep.Cut
namespace Go.Proofs.YtjalimkajcjapaaDoor
open Go.RowKit B

theorem wp_ret_stop {P : Program} {Q : Exit → Act → World → Prop} {a : Act} {w : World} (h : Hid (Q .ret a w)) : Code.wp P .ret Q a w := wp_ret h.out
section
variable {P : Program} {ops : Array Oper} {Q : Exit → Act → World → Prop} {rest : List Oper} {a : Act} {w : World} {d : Option Tmp} {p : String} {e : Array Edge} {g : Option (Nat × Bool)} {ty t : TypeId} {x y : Operand}
/-- the walk stands at a store: its law is tried there alone -/
theorem at_st (h : wpList P ops Q (⟨d, .store ty x y, t, p, e, g⟩ :: rest) a w) : wpList P ops Q (⟨d, .store ty x y, t, p, e, g⟩ :: rest) a w := h
theorem at_ld (h : wpList P ops Q (⟨d, .load ty x, t, p, e, g⟩ :: rest) a w) : wpList P ops Q (⟨d, .load ty x, t, p, e, g⟩ :: rest) a w := h
end
theorem get_all5 {b : List UInt8} (hb : b.length ≤ 100000) (h : (get b).2 = 0) : ∀ f ∈ (get b).1, f.good ∧ f.data.length ≤ b.length := by
  obtain ⟨h1, -, h2⟩ := put_get (b := b) (by omega) (l := (get b).1) (by rw [← h])
  obtain ⟨h3, h4⟩ := fdput_all _ h2
  exact fun f hf => ⟨h2 f hf, by have := h4 f hf; omega⟩
/-- a value that a program may hold -/
def VOk (v : Val) : Prop := plainV v = v ∧ I64 v.k ∧ U64 v.b ∧ v.t.size ≤ maxLen
theorem valE_ok5 {b : List UInt8} (hb : b.length ≤ 100000) {v : Val} (h : valE b = .ok v) : VOk v := by
  unfold valE at h
  split at h
  · simp at h
  · rename_i h0
    simp only [Except.ok.injEq] at h
    subst h
    unfold getS at h0 ⊢
    by_cases he : (get b).2 = 0
    · have h1 := get_all5 hb he
      rw [if_neg (by simp [he])] at h0 ⊢
      have key : ∀ f ∈ (get b).1, (ofS f).2 = 0 → VOk (ofS f).1 := by
        intro f hf hz
        obtain ⟨k1, k2⟩ := h1 f hf
        have k3 := good_int k1
        have k4 := k1.num
        unfold ofS at hz ⊢
        split
        · refine ⟨plain_plain _, ?_, ?_, ?_⟩
          · unfold plainV I64
            split
            · simp
            · show _ ≤ f.num ∧ f.num ≤ _
              omega
          · unfold plainV
            split
            · exact ⟨by simp, by simp⟩
            · show U64 (bitsV f.num f.int)
              unfold bitsV U64
              split
              · rw [IntKind.wrap_u64]; omega
              · omega
          · unfold plainV maxLen
            split
            · show f.data.toArray.size ≤ _
              simp only [List.size_toArray]
              omega
            · show (0 : Nat) ≤ _; omega
        · rename_i hn
          rw [if_neg hn] at hz
          simp at hz
      have hs : ∀ f ∈ (get b).1.filter low7, f ∈ (get b).1 := fun f hf => (List.mem_filter.1 hf).1
      generalize (get b).1.filter low7 = L at *
      match L, h0 with
      | [], h0 => simp [oneS] at h0
      | [f], h0 => exact key f (hs f (by simp)) (by simpa [oneS] using h0)
      | f :: g :: L, h0 => simp [oneS] at h0
    · rw [if_pos he] at h0
      simp [he] at h0
theorem mapE_snoc {α β : Type} (g : α → Except Int β) (a : α) : ∀ l : List α, mapE g (l ++ [a]) = match mapE g l with | .error e => .error e | .ok r => match g a with | .error e => .error e | .ok b => .ok (r ++ [b])
  | [] => by
    rw [List.nil_append]
    unfold mapE
    cases g a <;> rfl
  | x :: l => by
    have ih := mapE_snoc g a l
    rw [List.cons_append]
    unfold mapE
    rw [ih]
    cases g x with
    | error e => rfl
    | ok b =>
      cases mapE g l with
      | error e => rfl
      | ok r => cases g a <;> rfl
theorem mapE_pre {α β : Type} (g : α → Except Int β) {e : Int} : ∀ l m : List α, mapE g l = .error e → mapE g (l ++ m) = .error e
  | [], m, h => by unfold mapE at h; cases h
  | x :: l, m, h => by
    rw [List.cons_append]
    unfold mapE at h ⊢
    cases hx : g x with
    | error e' => rw [hx] at h; exact h
    | ok b =>
      rw [hx] at h
      dsimp only at h ⊢
      cases hl : mapE g l with
      | error e' =>
        rw [hl] at h
        injection h with h
        rw [mapE_pre g l m (h ▸ hl)]
      | ok r => rw [hl] at h; cases h
theorem numF_take {fs : List Fld} {k : Nat} (hk : k < fs.length) (n : Int) : numF ((fs.take (k + 1)).map Fld.fd) n = numF ((fs.take k).map Fld.fd) n ++ if fs[k].num = n then [fs[k].fd] else [] := by
  rw [List.take_succ_eq_append_getElem hk, List.map_append, numF_app]
  congr 1
  unfold numF
  have e : fs[k].fd.num = fs[k].num := rfl
  by_cases h : fs[k].num = n <;> simp [e, h]
theorem numF_pre (fs : List Fld) (k : Nat) (n : Int) : ∃ m, numF (fs.map Fld.fd) n = numF ((fs.take k).map Fld.fd) n ++ m := by
  refine ⟨numF ((fs.drop k).map Fld.fd) n, ?_⟩
  rw [← numF_app, ← List.map_append, List.take_append_drop]
theorem mapE_take {β : Type} (g : List UInt8 → Except Int β) {fs : List Fld} {k : Nat} (hk : k < fs.length) {n : Int} {r : List β} (h : mapE g ((numF ((fs.take k).map Fld.fd) n).map FD.data) = .ok r) :
    (¬ fs[k].num = n → mapE g ((numF ((fs.take (k + 1)).map Fld.fd) n).map FD.data) = .ok r) ∧
    (fs[k].num = n → (∀ e, g fs[k].data = .error e → mapE g ((numF (fs.map Fld.fd) n).map FD.data) = .error e) ∧ ∀ b, g fs[k].data = .ok b → mapE g ((numF ((fs.take (k + 1)).map Fld.fd) n).map FD.data) = .ok (r ++ [b])) := by
  rw [numF_take hk]
  constructor
  · intro hn
    rw [if_neg hn, List.append_nil]
    exact h
  · intro hn
    rw [if_pos hn]
    have e1 : mapE g ((numF ((fs.take k).map Fld.fd) n ++ [fs[k].fd]).map FD.data) = match g fs[k].data with | .error e => .error e | .ok b => .ok (r ++ [b]) := by
      rw [List.map_append]
      show mapE g (_ ++ [fs[k].data]) = _
      rw [mapE_snoc, h]
    constructor
    · intro e he
      rw [he] at e1
      obtain ⟨m, hm⟩ := numF_pre fs (k + 1) n
      rw [numF_take hk, if_pos hn] at hm
      rw [hm, List.map_append]
      exact mapE_pre g _ _ e1
    · intro b hb
      rw [hb] at e1
      exact e1
theorem keysF_take {fs : List Fld} {k : Nat} (hk : k < fs.length) : keysF ((fs.take (k + 1)).map Fld.fd) = keysF ((fs.take k).map Fld.fd) ++ if fs[k].num = 3 then [⟨fs[k].data.toArray⟩] else [] := by
  unfold keysF
  rw [numF_take hk, List.map_append]
  congr 1
  split <;> rfl
/-- bytes do not lie in a box that holds none -/
theorem Rd.off8 {w : World} {S : Nat → Prop} {v : Value} {l : List UInt8} {p : Nat} {cs : Array Value} {t : TypeId} {fr : Nat × Nat} (h : Rd w S 1 v l.length (U8 l)) (hp : w.heap[p]? = some (.cells cs t fr)) (hc : ∀ (j : Nat) z, cs[j]? ≠ some (.int .u8 z)) : Rd w (fun b => S b ∧ b ≠ p) 1 v l.length (U8 l) := by
  obtain ⟨e, A, c, rfl, h1, h2, h3, h4⟩ := h
  refine ⟨e, A, c, rfl, h1, h2, h3, fun hn => ?_⟩
  obtain ⟨b, o, rfl, hb, hc'⟩ := h4 hn
  refine ⟨b, o, rfl, ⟨hb, ?_⟩, hc'⟩
  rintro rfl
  have q1 := hc' 0 (.int .u8 (l[0].toNat : Int)) (by unfold U8; simp [hn])
  rw [cell_of_row w b _ cs t fr hp] at q1
  exact hc _ _ q1
/-- a row's parts, when the row is given one more -/
theorem Rd.insP {P : Nat → Prop} {w w' : World} {size n m : Nat} {v v' x : Value} {xs : List Value} (h : Rd w (fun b => P b ∧ Ins v b) size x n xs) (h0 : 0 < size) (hg : w.grownBy w' v.ownBlock) (hm : w.heap.size ≤ m) (hb : v'.ownBlock = v.ownBlock ∨ v'.ownBlock = some m) : Rd w' (fun b => P b ∧ Ins v' b) size x n xs := by
  refine ((h.and_lt h0).keep fun b hb1 => hg.block b hb1.2 fun e => hb1.1.2 e).into fun b hb1 => ⟨hb1.1.1, ?_⟩
  have h2 := hb1.1.2
  unfold Ins at h2 ⊢
  rcases hb with hb | hb
  · rw [hb]; exact h2
  · rw [hb]
    intro e
    injection e with e
    have := hb1.2
    omega
end Go.Proofs.YtjalimkajcjapaaDoor

namespace Go.Proofs.YtjalimkajcjapaaDoor
open Go.RowKit B

theorem rd_flat {α : Type} {g : α → List Value} {size : Nat} (hg : ∀ a, (g a).length = size) (h0 : 0 < size) {l : List α} {w : World} {S : Nat → Prop} {A : Option Addr} {n c : Nat} (h : Rd w S size (.slice A n c) l.length (l.flatMap g)) {j : Nat} (hj : j < l.length) :
    ∃ b o, A = some ⟨b, o, none⟩ ∧ ∀ i u, (g l[j])[i]? = some u → w.cell? ⟨b, o + j * size + i, none⟩ = some u := by
  have h := h.lt h0
  obtain ⟨_, A', c', e, _, _, _, k4⟩ := h
  injection e with e1 e2 e3
  obtain ⟨b, o, e4, hb, hc⟩ := k4 (by omega)
  exact ⟨b, o, e1.trans e4, flat_cells hg (Grow.refl w) hb hc hj⟩
theorem getF_err {K : List ByteArray} {V : List Val} {b : List UInt8} {e : Int} (h : getF K V b = .error e) : e ≠ 0 := by
  unfold getF at h
  split at h
  · rename_i h0
    injection h with h
    exact h ▸ h0
  · split at h
    · injection h with h; omega
    · split at h
      · rename_i h0
        injection h with h
        exact h ▸ h0
      · split at h
        · rename_i h0
          injection h with h
          exact h ▸ h0
        · split at h
          · injection h with h; omega
          · split at h
            · injection h with h; omega
            · split at h
              · injection h with h; omega
              · split at h
                · rename_i e' he
                  injection h with h
                  exact h ▸ decS_err he
                · split at h <;> cases h
theorem el_ft : Elem Tryd.prog 34 41 (.agg #[.bool false, .int .u64 0, .int .i64 0, .slice none 0 0, .slice none 0 0]) 5 72 := ⟨by kernel_rfl, by kernel_rfl, rfl, by decide, by decide⟩
theorem el_ly : Elem Tryd.prog 22 36 (.agg #[.string ⟨#[]⟩, .int .i64 0, .slice none 0 0]) 3 48 := ⟨by kernel_rfl, by kernel_rfl, rfl, by decide, by decide⟩
structure LS (w1 : World) (p2 p15 mb : Nat) (cs2 : Array Value) (mf : Value → Option Value) (kv vv : Value) (K : List ByteArray) (V : List Val) (W : World) : Prop where
  tn : Tn (fun b => b = p2 ∨ w1.heap.size ≤ b) w1 W
  b2 : W.heap[p2]? = some (.cells cs2 36 (0, 0))
  b15 : W.heap[p15]? = some (.cells #[kv, vv] 106 (0, 0))
  ok : W.ownsRow w1.heap.size 9 1 kv K.length (strs K)
  ov : W.ownsRow w1.heap.size 44 3 vv V.length (Vals V)
  mp : ∃ n, MapF Tryd.prog 3 W mb n mf
  p15 : w1.heap.size ≤ p15
section
variable {w1 W W' : World} {p2 p15 mb : Nat} {cs2 cs2' : Array Value} {mf : Value → Option Value} {kv vv kv' vv' : Value} {K : List ByteArray} {V : List Val}
theorem LS.turn (h : LS w1 p2 p15 mb cs2 mf kv vv K V W) {E : Nat → Prop} (ht : Tn E W W') (hE : ∀ j, E j → j = p2 ∨ w1.heap.size ≤ j) (n15 : ¬ E p15) (nm : ¬ E mb) (nk : ∀ j, kv.ownBlock = some j → ¬ E j) (nv : ∀ j, vv.ownBlock = some j → ¬ E j)
    (b2 : W'.heap[p2]? = some (.cells cs2' 36 (0, 0))) : LS w1 p2 p15 mb cs2' mf kv vv K V W' := by
  obtain ⟨n, hm⟩ := h.mp
  exact ⟨h.tn.tr ht fun j _ e => hE j e, b2, ht.blk h.b15 n15, Tn.own h.ok ht nk, Tn.own h.ov ht nv, ⟨n, Tn.map hm ht nm⟩, h.p15⟩
theorem LS.gr (h : LS w1 p2 p15 mb cs2 mf kv vv K V W) (hg : Grow W W') : LS w1 p2 p15 mb cs2 mf kv vv K V W' :=
  h.turn (E := fun _ => False) (Tn.of hg) (fun _ e => e.elim) id id (fun _ _ => id) (fun _ _ => id) ((hg.block _ (lt_of_block h.b2)).trans h.b2)
theorem LS.ne (h : LS w1 p2 p15 mb cs2 mf kv vv K V W) : p2 ≠ p15 := by
  rintro rfl
  have h1 := h.b2
  rw [h.b15] at h1
  simp at h1
theorem LS.key (h : LS w1 p2 p15 mb cs2 mf kv vv K V W) {K' : List ByteArray} (hg : W.grownBy W' kv.ownBlock) (ho : W'.ownsRow w1.heap.size 9 1 kv' K'.length (strs K')) : LS w1 p2 p15 mb cs2 mf kv' vv K' V (W'.setCell ⟨p15, 0, none⟩ kv') := by
  have t1 : Tn (fun j => kv.ownBlock = some j) W W' := Tn.by_ hg fun _ e => e
  obtain ⟨n, hm⟩ := h.mp
  have n2 : ¬ kv.ownBlock = some p2 := own_ne_box h.ok h.b2 (by decide)
  have n15 : ¬ kv.ownBlock = some p15 := own_ne_box h.ok h.b15 (by decide)
  have b15 := t1.blk h.b15 n15
  have b2 := t1.blk h.b2 n2
  have hv := Tn.own h.ov t1 fun j e e2 => own_ne_own h.ok h.ov (by decide) j e2 e
  have hm1 := Tn.map hm t1 fun e => hm.ne_own h.ok e
  have ts := Tn_set W' p15 0 kv'
  refine ⟨(h.tn.tr t1 fun j _ e => .inr (own_ge h.ok j e)).tr ts fun j _ e => .inr (e ▸ h.p15), ts.blk b2 h.ne, ?_, Tn.own ho ts fun k e e2 => own_ne_box ho b15 (by decide) (e2 ▸ e), Tn.own hv ts fun k e e2 => own_ne_box hv b15 (by decide) (e2 ▸ e), ⟨n, Tn.map hm1 ts fun e => hm1.ne_box b15 e.symm⟩, h.p15⟩
  have := blk_set b15 0 kv'
  simpa using this
theorem LS.val (h : LS w1 p2 p15 mb cs2 mf kv vv K V W) {V' : List Val} (hg : W.grownBy W' vv.ownBlock) (ho : W'.ownsRow w1.heap.size 44 3 vv' V'.length (Vals V')) : LS w1 p2 p15 mb cs2 mf kv vv' K V' (W'.setCell ⟨p15, 1, none⟩ vv') := by
  have t1 : Tn (fun j => vv.ownBlock = some j) W W' := Tn.by_ hg fun _ e => e
  obtain ⟨n, hm⟩ := h.mp
  have n2 : ¬ vv.ownBlock = some p2 := own_ne_box h.ov h.b2 (by decide)
  have n15 : ¬ vv.ownBlock = some p15 := own_ne_box h.ov h.b15 (by decide)
  have b15 := t1.blk h.b15 n15
  have b2 := t1.blk h.b2 n2
  have hk := Tn.own h.ok t1 fun j e e2 => own_ne_own h.ok h.ov (by decide) j e e2
  have hm1 := Tn.map hm t1 fun e => hm.ne_own h.ov e
  have ts := Tn_set W' p15 1 vv'
  refine ⟨(h.tn.tr t1 fun j _ e => .inr (own_ge h.ov j e)).tr ts fun j _ e => .inr (e ▸ h.p15), ts.blk b2 h.ne, ?_, Tn.own hk ts fun k e e2 => own_ne_box hk b15 (by decide) (e2 ▸ e), Tn.own ho ts fun k e e2 => own_ne_box ho b15 (by decide) (e2 ▸ e), ⟨n, Tn.map hm1 ts fun e => hm1.ne_box b15 e.symm⟩, h.p15⟩
  have := blk_set b15 1 vv'
  simpa using this
theorem LS.grow {w : World} (h : LS w1 p2 p15 mb cs2 mf kv vv K V W) (hw : Grow w w1) (hp : w.heap.size ≤ p2) : Grow w W :=
  Tn.gr hw h.tn fun j hj => by
    have := hw.size
    rcases hj with rfl | hj <;> omega
theorem LS.box {w : World} (h : LS w1 p2 p15 mb cs2 mf kv vv K V W) (hw : Grow w w1) (hp : w.heap.size ≤ p2) : BoxH w p2 cs2 36 W := ⟨h.grow hw hp, hp, h.b2⟩
theorem LS.rd {size n : Nat} {v : Value} {xs : List Value} (h : LS w1 p2 p15 mb cs2 mf kv vv K V W) (h0 : 0 < size) (hr : Rd w1 (fun b => b ≠ p2 ∧ b < w1.heap.size) size v n xs) : Rd W (fun b => b ≠ p2 ∧ b < w1.heap.size) size v n xs :=
  Tn.rd hr h0 h.tn fun b hb e => by rcases e with e | e <;> omega
theorem LS.flds {v : Value} {fs : List Fld} (h : LS w1 p2 p15 mb cs2 mf kv vv K V W) (hr : Flds w1 (fun b => b ≠ p2 ∧ b < w1.heap.size) v fs) : Flds W (fun b => b ≠ p2 ∧ b < w1.heap.size) v fs :=
  ⟨h.rd (by decide) hr.1, fun f hf => ⟨(hr.2 f hf).1, (hr.2 f hf).2.1, (hr.2 f hf).2.2.1, h.rd (by decide) (hr.2 f hf).2.2.2⟩⟩
/-- features under way -/
structure LF (w1 : World) (p2 p15 mb : Nat) (mf : Value → Option Value) (kv vv fv : Value) (K : List ByteArray) (V : List Val) (F : List FtR) (W : World) : Prop where
  ls : LS w1 p2 p15 mb #[.string ⟨#[]⟩, .int .i64 0, fv] mf kv vv K V W
  fo : W.ownsRow w1.heap.size 41 5 fv F.length (Fts F)
  fr : ∀ x ∈ F, x.rd W (fun b => w1.heap.size ≤ b ∧ Ins fv b)
  ok : ∀ x ∈ F, x.ok
theorem FtR.rd.insP {P : Nat → Prop} {w w' : World} {m : Nat} {v v' : Value} {x : FtR} (h : x.rd w (fun b => P b ∧ Ins v b)) (hg : w.grownBy w' v.ownBlock) (hm : w.heap.size ≤ m) (hb : v'.ownBlock = v.ownBlock ∨ v'.ownBlock = some m) : x.rd w' (fun b => P b ∧ Ins v' b) :=
  ⟨h.1.insP (by decide) hg hm hb, fun r hr => (h.2.1 r hr).insP (by decide) hg hm hb, h.2.2.insP (by decide) hg hm hb⟩
theorem FtR.rd.set {P : Nat → Prop} {w : World} {p j : Nat} {u : Value} {x : FtR} (h : x.rd w P) (hp : ∀ b, P b → b ≠ p) : x.rd (w.setCell ⟨p, j, none⟩ u) P := by
  have ts := Tn_set w p j u
  exact ⟨Tn.rd h.1 (by decide) ts hp, fun r hr => Tn.rd (h.2.1 r hr) (by decide) ts hp, Tn.rd h.2.2 (by decide) ts hp⟩
theorem FtR.rd.into {S T : Nat → Prop} {w : World} {x : FtR} (h : x.rd w S) (hp : ∀ b, S b → T b) : x.rd w T :=
  ⟨h.1.into hp, fun r hr => Rd.into (h.2.1 r hr) hp, h.2.2.into hp⟩
theorem LF.gr {fv : Value} {F : List FtR} (h : LF w1 p2 p15 mb mf kv vv fv K V F W) (hg : Grow W W') : LF w1 p2 p15 mb mf kv vv fv K V F W' :=
  ⟨h.ls.gr hg, own_grow h.fo hg, fun x hx => (h.fr x hx).gr hg, h.ok⟩
theorem LF.feat {fv fv' : Value} {F : List FtR} {x : FtR} {m : Nat} (h : LF w1 p2 p15 mb mf kv vv fv K V F W) (h2 : p2 < w1.heap.size) (hg : W.grownBy W' fv.ownBlock) (ho : W'.ownsRow w1.heap.size 41 5 fv' (F ++ [x]).length (Fts (F ++ [x]))) (hm : W.heap.size ≤ m) (hb : fv'.ownBlock = fv.ownBlock ∨ fv'.ownBlock = some m)
    (hx : x.rd W (fun b => w1.heap.size ≤ b ∧ Ins fv b)) (hk : x.ok) : LF w1 p2 p15 mb mf kv vv fv' K V (F ++ [x]) (W'.setCell ⟨p2, 2, none⟩ fv') := by
  have t1 : Tn (fun j => fv.ownBlock = some j) W W' := Tn.by_ hg fun _ e => e
  obtain ⟨n, hmm⟩ := h.ls.mp
  have n2 : ¬ fv.ownBlock = some p2 := own_ne_box h.fo h.ls.b2 (by decide)
  have b2 := t1.blk h.ls.b2 n2
  have ls1 := h.ls.turn t1 (fun j e => .inr (own_ge h.fo j e)) (own_ne_box h.fo h.ls.b15 (by decide)) (fun e => hmm.ne_own h.fo e) (fun j e e2 => own_ne_own h.ls.ok h.fo (by decide) j e e2) (fun j e e2 => own_ne_own h.ls.ov h.fo (by decide) j e e2) b2
  have ts := Tn_set W' p2 2 fv'
  obtain ⟨n', hm'⟩ := ls1.mp
  have hb2 := blk_set b2 2 fv'
  refine ⟨ls1.turn ts (fun j e => .inl e) (fun e => ls1.ne e.symm) (fun e => hm'.ne_box b2 e.symm) (fun j e e2 => own_ne_box ls1.ok b2 (by decide) (e2 ▸ e)) (fun j e e2 => own_ne_box ls1.ov b2 (by decide) (e2 ▸ e)) (by simpa using hb2), Tn.own ho ts fun k e e2 => own_ne_box ho b2 (by decide) (e2 ▸ e), fun y hy => ?_, fun y hy => ?_⟩
  · have key : y.rd W (fun b => w1.heap.size ≤ b ∧ Ins fv b) := by
      rcases List.mem_append.1 hy with hy | hy
      · exact h.fr y hy
      · rw [List.mem_singleton.1 hy]; exact hx
    exact (key.insP hg hm hb).set fun b hb => by omega
  · rcases List.mem_append.1 hy with hy | hy
    · exact h.ok y hy
    · rw [List.mem_singleton.1 hy]; exact hk
theorem LS.fresh {fv : Value} {F : List FtR} {x : FtR} {S : Nat} (h : LF w1 p2 p15 mb mf kv vv fv K V F W) (hx : x.rd W' (fun b => S ≤ b)) (hS : W.heap.size ≤ S) (h1 : w1.heap.size ≤ W.heap.size) : x.rd W' (fun b => w1.heap.size ≤ b ∧ Ins fv b) :=
  hx.into fun b hb => ⟨by omega, fun e => by have := (h.fo.lt b e.symm).2; omega⟩
end
end Go.Proofs.YtjalimkajcjapaaDoor

namespace Go.Proofs.YtjalimkajcjapaaDoor
open Go.RowKit B

theorem mf_made (w : World) : MapF Tryd.prog 3 (w.alloc (.map #[] 0)) w.heap.size 0 (tabF []) := by
  rw [tabF_nil]
  exact MapF.made w Tryd.prog 3
theorem keysF_le (l : List FD) : (keysF l).length ≤ l.length := by
  unfold keysF numF
  rw [List.length_map]
  exact List.length_filter_le _ _
theorem valE_len {l : List FD} {V : List Val} (h : mapE valE ((numF l 4).map FD.data) = .ok V) : V.length ≤ l.length := by
  have h1 := (mapE_len _ _ h).1
  rw [List.length_map] at h1
  have : (numF l 4).length ≤ l.length := List.length_filter_le _ _
  omega
theorem numF_num {l : List FD} {n : Int} : ∀ f ∈ numF l n, f.num = n := fun f hf => by simpa using (List.mem_filter.1 hf).2
theorem FtR.rd.rowS {P : Nat → Prop} {w : World} {p : Nat} {cs : Array Value} {x : FtR} (h : x.rd w P) (hp : ∀ b, P b → b ≠ p) : x.rd (w.setRow p cs) P :=
  ⟨h.1.rowS hp cs, fun r hr => (h.2.1 r hr).rowS hp cs, h.2.2.rowS hp cs⟩
theorem LyR.rd.rowS {P : Nat → Prop} {w : World} {p : Nat} {cs : Array Value} {x : LyR} (h : x.rd w P) (hp : ∀ b, P b → b ≠ p) : x.rd (w.setRow p cs) P :=
  ⟨h.1.rowS hp cs, fun f hf => (h.2 f hf).rowS hp⟩
theorem LyR.rd.set {P : Nat → Prop} {w : World} {p j : Nat} {u : Value} {x : LyR} (h : x.rd w P) (hp : ∀ b, P b → b ≠ p) : x.rd (w.setCell ⟨p, j, none⟩ u) P :=
  ⟨Tn.rd h.1 (by decide) (Tn_set w p j u) hp, fun f hf => (h.2 f hf).set hp⟩
theorem LyR.rd.into {S T : Nat → Prop} {w : World} {x : LyR} (h : x.rd w S) (hp : ∀ b, S b → T b) : x.rd w T := ⟨h.1.into hp, fun f hf => (h.2 f hf).into hp⟩
theorem LF.lyr {w1 W : World} {p2 p15 mb : Nat} {mf : Value → Option Value} {kv vv fv : Value} {K : List ByteArray} {V : List Val} {F : List FtR} {nm : ByteArray} {ext : Int} (h : LF w1 p2 p15 mb mf kv vv fv K V F W) : LyR.rd ⟨nm, ext, fv, F⟩ W (fun b => w1.heap.size ≤ b) :=
  ⟨Rd.own_from h.fo, fun f hf => (h.fr f hf).into fun _ hb => hb.1⟩
structure LyB (b : List UInt8) : Prop where
  len : b.length ≤ 1000000000000
  cnt : (get b).1.length ≤ 1000000
  dat : ∀ f ∈ (get b).1, f.data.length ≤ 1000000000000 ∧ (f.num = 4 → f.data.length ≤ 100000) ∧ (f.num = 2 → FtB f.data)
/-- what is got of bytes, by the fields as they lie -/
theorem getLy_fs {b : List UInt8} {fs : List Fld} (hfs : fs.map Fld.fd = (get b).1) (h0 : (get b).2 = 0) (h1 : onceL (get b).1 = true) :
    ((fs.find? fun f => decide (f.num = 1)).isSome = false ∨ intF (get b).1 15 1 < 1 ∨ 2 < intF (get b).1 15 1 → getLy b = .error 3) ∧
    ((fs.find? fun f => decide (f.num = 1)).isSome = true → ¬ (intF (get b).1 15 1 < 1 ∨ 2 < intF (get b).1 15 1) →
      (∀ e, mapE valE ((numF (get b).1 4).map FD.data) = .error e → getLy b = .error e) ∧
      ∀ V, mapE valE ((numF (get b).1 4).map FD.data) = .ok V → (∀ e, mapE (getF (keysF (get b).1) V) ((numF (get b).1 2).map FD.data) = .error e → getLy b = .error e) ∧
        ∀ F, mapE (getF (keysF (get b).1) V) ((numF (get b).1 2).map FD.data) = .ok F → getLy b = .ok (⟨(pickF fs 1).data.toArray⟩, ((min (intF (get b).1 5 4096) 65537 : Nat) : Int), F)) := by
  have e1 : dataF (get b).1 1 = (pickF fs 1).data := by rw [← hfs]; exact pick_data fs 1
  have n1 : (fs.find? fun f => decide (f.num = 1)).isSome = true ↔ numF (get b).1 1 ≠ [] := by
    have n := pick_num fs 1
    rw [hfs] at n
    rcases n with ⟨q1, q2, -⟩ | ⟨⟨r, q1⟩, q2, -⟩
    · rw [q1, q2]; simp
    · rw [q1, q2]; simp
  constructor
  · intro h
    unfold getLy
    rw [if_neg (by simp [h0]), if_pos]
    rcases h with h | h | h
    · exact .inr (.inl (by
        by_cases hz : numF (get b).1 1 = []
        · exact hz
        · rw [n1.2 hz] at h; cases h))
    · exact .inr (.inr (.inl h))
    · exact .inr (.inr (.inr h))
  · intro hs hv
    have key : getLy b = match mapE valE ((numF (get b).1 4).map FD.data) with
      | .error e => .error e
      | .ok V => match mapE (getF (keysF (get b).1) V) ((numF (get b).1 2).map FD.data) with
        | .error e => .error e
        | .ok F => .ok (⟨(dataF (get b).1 1).toArray⟩, (min (intF (get b).1 5 4096) 65537 : Nat), F) := by
      unfold getLy
      rw [if_neg (by simp [h0]), if_neg]
      · rfl
      · rintro (h | h | h)
        · rw [h1] at h; cases h
        · exact n1.1 hs h
        · exact hv h
    rw [key]
    refine ⟨fun e he => by rw [he], fun V hV => ?_⟩
    rw [hV]
    dsimp only
    refine ⟨fun e he => by rw [he], fun F hF => ?_⟩
    rw [hF, e1]
theorem int_fs {b : List UInt8} {fs : List Fld} (hfs : fs.map Fld.fd = (get b).1) (n : Int) (d : Nat) : intF (get b).1 n d = if (fs.find? fun f => decide (f.num = n)).isSome then (pickF fs n).int else d := by
  have h := pick_num fs n
  rw [hfs] at h
  unfold intF
  rcases h with ⟨q1, q2, -⟩ | ⟨⟨r, q1⟩, q2, -⟩
  · rw [q1, q2]; rfl
  · rw [q1, q2]; rfl

set_option maxRecDepth 100000 in
set_option maxHeartbeats 6000000 in
theorem layer_any (b : List UInt8) (bv : Value) (S : Nat → Prop) (w : World) (hb : Rd w S 1 bv b.length (U8 b)) (hB : LyB b) (hT : Tabs w) {R : Ending → World → Prop}
    (h0 : ∀ e, getLy b = .error e → ∀ (nm : ByteArray) (ext : Int) (f1 : Option Addr) (f2 f3 : Nat) w', Grow w w' → R (.returned (.tuple #[.agg #[.string nm, .int .i64 ext, .slice f1 f2 f3], .int .i64 e])) w')
    (h1 : ∀ (x : LyR) w', getLy b = .ok x.pl → x.rd w' (fun b => w.heap.size ≤ b) → x.ok → Grow w w' → R (.returned (.tuple #[.agg x.cells.toArray, .int .i64 0])) w') :
    Calls Tryd.prog 23 #[bv] w R := by
  have NO := Lib.hid h0
  have YS := Lib.hid h1
  have HBB := Lib.hid hB
  have HT := Lib.hid hT
  have GE := Lib.hid fun W (hg : Grow w W) (R : Ending → World → Prop) hR => get_any b bv _ W (hb.gr2 (by decide) hg) hB.len (R := R) hR
  obtain ⟨B1, B2, B3, hbv⟩ := hb.form
  subst hbv
  clear h0 h1 hB hb hT
  have hmm := @run_makeMap Tryd.prog
  have hf3 := fieldF3
  have hf2 := fieldF2
  have BF := Lib.hid (BoxH.laid #[.string ⟨#[]⟩, .int .i64 0, .slice none 0 0] 36 (Grow.refl w))
  have G0 := Lib.hid BF.out.grow
  go_enter Tryd.func23, Tryd.ntmps23
  go_wp2_with fail
  generalize w.alloc (.cells #[.string ⟨#[]⟩, .int .i64 0, .slice none 0 0] 36) = wa at *
  obtain ⟨p2, hp2⟩ : ∃ p, w.heap.size = p := ⟨_, rfl⟩
  rw [hp2] at BF
  rw [hp2]
  have P2 : Hid (w.heap.size ≤ p2) := by show _ ≤ _; omega
  clear hp2
  go_at_call 22
  refine GE.out _ G0.out _ ?_
  intro r fs w1 hO hF hfs hg1
  have BF1 := Lib.hid (BF.out.tr hg1)
  have P21 : Hid (p2 < wa.heap.size) := BF.out.lt
  have FL : Hid (Flds w1 (fun b => b ≠ p2 ∧ b < w1.heap.size) r fs) := by
    have c8 : ∀ (j : Nat) (z : Int), (#[.string ⟨#[]⟩, .int .i64 0, .slice none 0 0] : Array Value)[j]? ≠ some (.int .u8 z) := by
      intro j z
      rcases j with _ | _ | _ | j <;> simp
    refine ⟨((Rd.own hO).and_lt (by decide)).into fun b hb => ⟨?_, hb.2⟩, fun f hf => ⟨(hF f hf).1, (hF f hf).2.1, (hF f hf).2.2.1, ?_⟩⟩
    · have := (hO.lt _ hb.1.symm).1
      have := P21.out
      omega
    · exact (((hF f hf).2.2.2.off8 BF1.out.2.2 c8).and_lt (by decide)).into fun b hb => ⟨hb.1.2, hb.2⟩
  have HFS := Lib.hid hfs
  have P21 := Lib.hid BF1.out.lt
  have GW1 := Lib.hid BF1.out.grow
  obtain ⟨F1, F2, rfl⟩ := own_slice hO
  clear hg1 hO hF hfs G0 GE BF
  have BF := BF1
  clear BF1
  by_cases he : (get b).2 = 0
  · have t1 : ((get b).2 != 0) = false := by simp [he]
    have HON := Lib.hid (onceL_iff fs)
    rw [HFS.out] at HON
    go_upto_region 4 with fail
    go_wp2_with (first | (refine wpList_ins _ rfl _ _ _ _ rfl (mf_made w1) rfl keyI Tryd.underlying103 (by unfold maxLen; omega) (key := .int .i64 1) (val := .int .i64 2) rfl rfl (intKey (by unfold I64; simp)) (tabF_snoc (T := []) (k := 1) (v := 2) rfl).1 (tabF_snoc (T := []) (k := 1) (v := 2) rfl).2 ?_; intro wm1 hm1 hg1; have M1 := Lib.hid hm1; have GM1 := Lib.hid (grow_app ((Grow.refl w1).al (.map #[] 0)) hg1 fun j e => by injection e with e; exact Nat.le_of_eq e); clear hm1 hg1) | (refine wpList_ins _ rfl _ _ _ _ rfl M1.out rfl keyI Tryd.underlying103 (by unfold maxLen; omega) (key := .int .i64 5) (val := .int .i64 0) rfl rfl (intKey (by unfold I64; simp)) (tabF_snoc (T := ([] ++ [(1, 2)] : List (Int × Int))) (k := 5) (v := 0) rfl).1 (tabF_snoc (T := ([] ++ [(1, 2)] : List (Int × Int))) (k := 5) (v := 0) rfl).2 ?_; intro wm2 hm2 hg2; have M2 := Lib.hid hm2; have GM2 := Lib.hid (grow_app GM1.out hg2 fun j e => by injection e with e; exact Nat.le_of_eq e); clear hm2 hg2) | (refine wpList_ins _ rfl _ _ _ _ rfl M2.out rfl keyI Tryd.underlying103 (by unfold maxLen; omega) (key := .int .i64 15) (val := .int .i64 0) rfl rfl (intKey (by unfold I64; simp)) (tabF_snoc (T := (([] ++ [(1, 2)] : List (Int × Int)) ++ [(5, 0)] : List (Int × Int))) (k := 15) (v := 0) rfl).1 (tabF_snoc (T := (([] ++ [(1, 2)] : List (Int × Int)) ++ [(5, 0)] : List (Int × Int))) (k := 15) (v := 0) rfl).2 ?_; intro wm3 hm3 hg3; have M3 := Lib.hid hm3; have GM3 := Lib.hid (grow_app GM2.out hg3 fun j e => by injection e with e; exact Nat.le_of_eq e); clear hm3 hg3) | (refine wpList_ins _ rfl _ _ _ _ rfl (mf_made wm3) rfl keyI Tryd.underlying103 (by unfold maxLen; omega) (key := .int .i64 2) (val := .int .i64 2) rfl rfl (intKey (by unfold I64; simp)) (tabF_snoc (T := []) (k := 2) (v := 2) rfl).1 (tabF_snoc (T := []) (k := 2) (v := 2) rfl).2 ?_; intro wm4 hm4 hg4; have M4 := Lib.hid hm4; have GM4 := Lib.hid (grow_app ((Grow.refl wm3).al (.map #[] 0)) hg4 fun j e => by injection e with e; exact Nat.le_of_eq e); clear hm4 hg4) | (refine wpList_ins _ rfl _ _ _ _ rfl M4.out rfl keyI Tryd.underlying103 (by unfold maxLen; omega) (key := .int .i64 3) (val := .int .i64 2) rfl rfl (intKey (by unfold I64; simp)) (tabF_snoc (T := ([] ++ [(2, 2)] : List (Int × Int))) (k := 3) (v := 2) rfl).1 (tabF_snoc (T := ([] ++ [(2, 2)] : List (Int × Int))) (k := 3) (v := 2) rfl).2 ?_; intro wm5 hm5 hg5; have M5 := Lib.hid hm5; have GM5 := Lib.hid (grow_app GM4.out hg5 fun j e => by injection e with e; exact Nat.le_of_eq e); clear hm5 hg5) | (refine wpList_ins _ rfl _ _ _ _ rfl M5.out rfl keyI Tryd.underlying103 (by unfold maxLen; omega) (key := .int .i64 4) (val := .int .i64 2) rfl rfl (intKey (by unfold I64; simp)) (tabF_snoc (T := (([] ++ [(2, 2)] : List (Int × Int)) ++ [(3, 2)] : List (Int × Int))) (k := 4) (v := 2) rfl).1 (tabF_snoc (T := (([] ++ [(2, 2)] : List (Int × Int)) ++ [(3, 2)] : List (Int × Int))) (k := 4) (v := 2) rfl).2 ?_; intro wm6 hm6 hg6; have M6 := Lib.hid hm6; have GM6 := Lib.hid (grow_app GM5.out hg6 fun j e => by injection e with e; exact Nat.le_of_eq e); clear hm6 hg6))
    go_at_call 47
    have GM9 := Lib.hid (GM3.out.tr GM6.out)
    refine once_any [(1, 2), (5, 0), (15, 0)] [(2, 2), (3, 2), (4, 2)] _ _ _ fs (fun b => b ≠ p2 ∧ b < w1.heap.size) wm6 (FL.out.gr GM9.out) (.inr ⟨_, _, rfl, M3.out.gr GM6.out⟩) (.inr ⟨_, _, rfl, M6.out⟩) ?_ ?_
    · intro hno w2 hg2
      have BF := Lib.hid (BF.out.tr (GM9.out.tr hg2))
      have o1 : onceL (get b).1 = false := by
        cases h : onceL (get b).1 with
        | false => rfl
        | true => exact absurd (HON.out.1 h) hno
      have FIN := Lib.hid (NO.out 3 (by unfold getLy; rw [if_neg (by simp [he]), if_pos (.inl o1)]))
      clear NO YS HBB FL HFS he hno o1 HON hg2 M1 M2 M3 M4 M5 M6 GM1 GM2 GM3 GM4 GM5 GM6 GM9 t1
      -- BF : the box of the layer at the world of the goal, which stands before the region N; FIN : the error
      have BZ := Lib.hid (BF.out.row (cs' := #[.string ⟨#[]⟩, .int .i64 0, .slice none 0 0]))
      go_upto_region 6 with fail
      repeat (first | ((with_reducible refine at_ld ?_); refine wpList_load_row rfl 36 _ rfl p2 rfl 36 _ (0, 0) _ BF.out.2.2 Tryd.underlying36 rfl (by kernel_rfl) ?_) | ((with_reducible refine at_st ?_); refine wpList_store_row rfl 36 _ _ rfl p2 #[.string ⟨#[]⟩, .int .i64 0, .slice none 0 0] rfl rfl 36 _ BF.out.2.2 (by kernel_rfl) rfl (by simp [Value.oneCell']) ?_) | go_values | go_skip | go_guarded | go_step | go_upon)
      refine bodyPost_ret (results_ct rfl _ _ p2 _ _ (0, 0) _ rfl BZ.out.2.2 rfl rfl Tryd.underlying36 (by kernel_rfl)) rfl ?_
      exact FIN.out _ _ _ _ _ _ BZ.out.grow
    · intro hyes m mn w2 hM hg2
      have G2 := Lib.hid (GM9.out.tr hg2)
      have BF := Lib.hid (BF.out.tr G2.out)
      have MM := Lib.hid hM
      have o1 : onceL (get b).1 = true := HON.out.2 hyes
      have GL := getLy_fs HFS.out he o1
      have I15 := int_fs HFS.out 15 1
      have I5 := int_fs HFS.out 5 4096
      clear M1 M2 M3 M4 M5 M6 GM1 GM2 GM3 GM4 GM5 GM6 GM9 hg2 hM HON hyes o1 he t1
      obtain ⟨q1, hq1⟩ : ∃ q, pickF fs 1 = q := ⟨_, rfl⟩
      obtain ⟨hs1, hhs1⟩ : ∃ h, (fs.find? fun f => decide (f.num = 1)).isSome = h := ⟨_, rfl⟩
      have PO1 := Lib.hid (hq1 ▸ pick_ok FL.out.2 1 : q1.ok w1 fun b => b ≠ p2 ∧ b < w1.heap.size)
      have EL1 : Hid ((fldF (fs.filter (inT [(1, 2), (5, 0), (15, 0)] [(2, 2), (3, 2), (4, 2)])) (.int .i64 1)).getD (.agg #[.int .i64 0, .int .i64 0, .int .u64 0, .slice none 0 0]) = fldC q1) := (pick_look fs rfl rfl).trans (congrArg fldC hq1)
      have ES1 : Hid ((fldF (fs.filter (inT [(1, 2), (5, 0), (15, 0)] [(2, 2), (3, 2), (4, 2)])) (.int .i64 1)).isSome = hs1) := by
        show _ = _
        rw [pick_fld fs rfl rfl, ← hhs1]
        cases fs.find? fun f => decide (f.num = 1) <;> rfl
      obtain ⟨q5, hq5⟩ : ∃ q, pickF fs 5 = q := ⟨_, rfl⟩
      obtain ⟨hs5, hhs5⟩ : ∃ h, (fs.find? fun f => decide (f.num = 5)).isSome = h := ⟨_, rfl⟩
      have PO5 := Lib.hid (hq5 ▸ pick_ok FL.out.2 5 : q5.ok w1 fun b => b ≠ p2 ∧ b < w1.heap.size)
      have EL5 : Hid ((fldF (fs.filter (inT [(1, 2), (5, 0), (15, 0)] [(2, 2), (3, 2), (4, 2)])) (.int .i64 5)).getD (.agg #[.int .i64 0, .int .i64 0, .int .u64 0, .slice none 0 0]) = fldC q5) := (pick_look fs rfl rfl).trans (congrArg fldC hq5)
      have ES5 : Hid ((fldF (fs.filter (inT [(1, 2), (5, 0), (15, 0)] [(2, 2), (3, 2), (4, 2)])) (.int .i64 5)).isSome = hs5) := by
        show _ = _
        rw [pick_fld fs rfl rfl, ← hhs5]
        cases fs.find? fun f => decide (f.num = 5) <;> rfl
      obtain ⟨q15, hq15⟩ : ∃ q, pickF fs 15 = q := ⟨_, rfl⟩
      obtain ⟨hs15, hhs15⟩ : ∃ h, (fs.find? fun f => decide (f.num = 15)).isSome = h := ⟨_, rfl⟩
      have PO15 := Lib.hid (hq15 ▸ pick_ok FL.out.2 15 : q15.ok w1 fun b => b ≠ p2 ∧ b < w1.heap.size)
      have EL15 : Hid ((fldF (fs.filter (inT [(1, 2), (5, 0), (15, 0)] [(2, 2), (3, 2), (4, 2)])) (.int .i64 15)).getD (.agg #[.int .i64 0, .int .i64 0, .int .u64 0, .slice none 0 0]) = fldC q15) := (pick_look fs rfl rfl).trans (congrArg fldC hq15)
      have ES15 : Hid ((fldF (fs.filter (inT [(1, 2), (5, 0), (15, 0)] [(2, 2), (3, 2), (4, 2)])) (.int .i64 15)).isSome = hs15) := by
        show _ = _
        rw [pick_fld fs rfl rfl, ← hhs15]
        cases fs.find? fun f => decide (f.num = 15) <;> rfl
      rw [hhs1, hq1] at GL
      rw [hhs15, hq15] at I15
      rw [hhs5, hq5] at I5
      generalize fldF (fs.filter (inT [(1, 2), (5, 0), (15, 0)] [(2, 2), (3, 2), (4, 2)])) = mf at *
      obtain ⟨X1, Y1, Z1, hx1⟩ := Rd.form PO1.out.2.2.2
      obtain ⟨n1, k1, i1, d1, v1⟩ := q1
      dsimp only at hx1
      subst hx1
      unfold fldC Fld.cells at EL1
      dsimp only at EL1
      obtain ⟨X5, Y5, Z5, hx5⟩ := Rd.form PO5.out.2.2.2
      obtain ⟨n5, k5, i5, d5, v5⟩ := q5
      dsimp only at hx5
      subst hx5
      unfold fldC Fld.cells at EL5
      dsimp only at EL5
      obtain ⟨X15, Y15, Z15, hx15⟩ := Rd.form PO15.out.2.2.2
      obtain ⟨n15, k15, i15, d15, v15⟩ := q15
      dsimp only at hx15
      subst hx15
      unfold fldC Fld.cells at EL15
      dsimp only at EL15
      dsimp only at GL I15 I5
      have R1 := Lib.hid PO1.out.2.2.2
      dsimp only at R1
      have D1 : Hid (d1.length ≤ 1000000000000) := by
        have h := dataF_le (l := (get b).1) (n := 1) fun f hf => (HBB.out.dat f hf).1
        rw [← HFS.out, pick_data, hq1] at h
        exact h
      have IB15 : Hid (i15 < 18446744073709551616) := PO15.out.2.2.1
      have IB5 : Hid (i5 < 18446744073709551616) := PO5.out.2.2.1
      have GL := Lib.hid GL
      have J15 := Lib.hid I15
      have J5 := Lib.hid I5
      clear I15 I5
      generalize hver : intF (get b).1 15 1 = ver at *
      generalize hext : intF (get b).1 5 4096 = ext at *
      clear PO1 PO5 PO15 hver hext hq1 hq5 hq15 hhs1 hhs5 hhs15
      go_upto_if 50 with (at_lookup; refine wpList_lookok _ rfl _ _ _ rfl MM.out rfl keyI Tryd.underlying100 (zeroFld _) (key := .int .i64 15) rfl (intKey (by unfold I64; simp)) (v := .agg #[.int .i64 n15, .int .i64 k15, .int .u64 i15, .slice X15 Y15 Z15]) (ok := hs15) EL15.out ES15.out ?_)
      have MM := Lib.hid (MM.out.gr ((Grow.refl w2).al (.cells #[.int .i64 n15, .int .i64 k15, .int .u64 i15, .slice X15 Y15 Z15] 51)))
      have BF := Lib.hid (BF.out.tr ((Grow.refl w2).al (.cells #[.int .i64 n15, .int .i64 k15, .int .u64 i15, .slice X15 Y15 Z15] 51)))
      have G2 := Lib.hid (G2.out.al (.cells #[.int .i64 n15, .int .i64 k15, .int .u64 i15, .slice X15 Y15 Z15] 51))
      have BQ := Lib.hid (BoxH.laid #[.int .i64 n15, .int .i64 k15, .int .u64 i15, .slice X15 Y15 Z15] 51 (Grow.refl w2))
      generalize w2.alloc (.cells #[.int .i64 n15, .int .i64 k15, .int .u64 i15, .slice X15 Y15 Z15] 51) = w3 at *
      generalize w2.heap.size = p9 at *
      have x2 := BQ.out.cell 2
      go_cut [7] from 24 (fun v w => v = .int .u64 (ver : Int) ∧ w = w3)
      case first =>
        clear NO YS GL EL1 EL5 EL15
        cases hs15 with
        | true =>
          have e : ver = i15 := J15.out
          clear J15
          subst e
          go_wp2
          go_meet
          case rel => exact ⟨rfl, rfl⟩
        | false =>
          have e : ver = 1 := J15.out
          clear J15
          subst e
          go_wp2
          go_meet
          case rel => exact ⟨rfl, rfl⟩
      case rest =>
        obtain ⟨rfl, rfl⟩ := hcut
        clear BQ x2 ES15 EL15 J15
        go_upto_if 58 with (at_lookup; refine wpList_lookok _ rfl _ _ _ rfl MM.out rfl keyI Tryd.underlying100 (zeroFld _) (key := .int .i64 5) rfl (intKey (by unfold I64; simp)) (v := .agg #[.int .i64 n5, .int .i64 k5, .int .u64 i5, .slice X5 Y5 Z5]) (ok := hs5) EL5.out ES5.out ?_)
        have MM := Lib.hid (MM.out.gr ((Grow.refl wc).al (.cells #[.int .i64 n5, .int .i64 k5, .int .u64 i5, .slice X5 Y5 Z5] 51)))
        have BF := Lib.hid (BF.out.tr ((Grow.refl wc).al (.cells #[.int .i64 n5, .int .i64 k5, .int .u64 i5, .slice X5 Y5 Z5] 51)))
        have G2 := Lib.hid (G2.out.al (.cells #[.int .i64 n5, .int .i64 k5, .int .u64 i5, .slice X5 Y5 Z5] 51))
        have BQ := Lib.hid (BoxH.laid #[.int .i64 n5, .int .i64 k5, .int .u64 i5, .slice X5 Y5 Z5] 51 (Grow.refl wc))
        generalize wc.alloc (.cells #[.int .i64 n5, .int .i64 k5, .int .u64 i5, .slice X5 Y5 Z5] 51) = w4 at *
        generalize wc.heap.size = p11 at *
        have x2 := BQ.out.cell 2
        go_cut [8] from 24 (fun v w => v = .int .u64 ((min ext 65537 : Nat) : Int) ∧ w = w4)
        case first =>
          clear NO YS GL EL1 EL5
          cases hs5 with
          | true =>
            have e : ext = i5 := J5.out
            clear J5
            subst e
            by_cases hm : ext ≤ 65537
            · have em : min ext 65537 = ext := by omega
              go_wp2
              go_meet
              case rel => exact ⟨by rw [em]; first | rfl | (simp; omega), rfl⟩
            · have em : min ext 65537 = 65537 := by omega
              go_wp2
              go_meet
              case rel => exact ⟨by rw [em]; first | rfl | (simp; omega), rfl⟩
          | false =>
            have e : ext = 4096 := J5.out
            clear J5
            subst e
            go_wp2
            go_meet
            case rel => exact ⟨rfl, rfl⟩
        case rest =>
          obtain ⟨rfl, rfl⟩ := hcut
          clear BQ x2 ES5 EL5 J5
          cases hs1 with
          | false =>
            have FIN := Lib.hid (NO.out 3 (GL.out.1 (.inl rfl)))
            clear NO YS GL HBB FL HFS
            have BF := Lib.hid (BF.out.tr ((Grow.refl wc).al (.cells #[.int .i64 n1, .int .i64 k1, .int .u64 i1, .slice X1 Y1 Z1] 51)))
            go_upto_region 16 with (at_lookup; refine wpList_lookok _ rfl _ _ _ rfl MM.out rfl keyI Tryd.underlying100 (zeroFld _) (key := .int .i64 1) rfl (intKey (by unfold I64; simp)) (v := .agg #[.int .i64 n1, .int .i64 k1, .int .u64 i1, .slice X1 Y1 Z1]) (ok := false) EL1.out ES1.out ?_)
            generalize wc.alloc (.cells #[.int .i64 n1, .int .i64 k1, .int .u64 i1, .slice X1 Y1 Z1] 51) = wd at *
            -- BF : the box of the layer at the world of the goal, which stands before the region N; FIN : the error
            have BZ := Lib.hid (BF.out.row (cs' := #[.string ⟨#[]⟩, .int .i64 0, .slice none 0 0]))
            go_upto_region 16 with fail
            repeat (first | ((with_reducible refine at_ld ?_); refine wpList_load_row rfl 36 _ rfl p2 rfl 36 _ (0, 0) _ BF.out.2.2 Tryd.underlying36 rfl (by kernel_rfl) ?_) | ((with_reducible refine at_st ?_); refine wpList_store_row rfl 36 _ _ rfl p2 #[.string ⟨#[]⟩, .int .i64 0, .slice none 0 0] rfl rfl 36 _ BF.out.2.2 (by kernel_rfl) rfl (by simp [Value.oneCell']) ?_) | go_values | go_skip | go_guarded | go_step | go_upon)
            refine bodyPost_ret (results_ct rfl _ _ p2 _ _ (0, 0) _ rfl BZ.out.2.2 rfl rfl Tryd.underlying36 (by kernel_rfl)) rfl ?_
            exact FIN.out _ _ _ _ _ _ BZ.out.grow
          | true =>
            by_cases hv1 : ver < 1
            · have FIN := Lib.hid (NO.out 3 (GL.out.1 (.inr (.inl hv1))))
              clear NO YS GL HBB FL HFS
              have BF := Lib.hid (BF.out.tr ((Grow.refl wc).al (.cells #[.int .i64 n1, .int .i64 k1, .int .u64 i1, .slice X1 Y1 Z1] 51)))
              go_upto_region 16 with (at_lookup; refine wpList_lookok _ rfl _ _ _ rfl MM.out rfl keyI Tryd.underlying100 (zeroFld _) (key := .int .i64 1) rfl (intKey (by unfold I64; simp)) (v := .agg #[.int .i64 n1, .int .i64 k1, .int .u64 i1, .slice X1 Y1 Z1]) (ok := true) EL1.out ES1.out ?_)
              generalize wc.alloc (.cells #[.int .i64 n1, .int .i64 k1, .int .u64 i1, .slice X1 Y1 Z1] 51) = wd at *
              -- BF : the box of the layer at the world of the goal, which stands before the region N; FIN : the error
              have BZ := Lib.hid (BF.out.row (cs' := #[.string ⟨#[]⟩, .int .i64 0, .slice none 0 0]))
              go_upto_region 16 with fail
              repeat (first | ((with_reducible refine at_ld ?_); refine wpList_load_row rfl 36 _ rfl p2 rfl 36 _ (0, 0) _ BF.out.2.2 Tryd.underlying36 rfl (by kernel_rfl) ?_) | ((with_reducible refine at_st ?_); refine wpList_store_row rfl 36 _ _ rfl p2 #[.string ⟨#[]⟩, .int .i64 0, .slice none 0 0] rfl rfl 36 _ BF.out.2.2 (by kernel_rfl) rfl (by simp [Value.oneCell']) ?_) | go_values | go_skip | go_guarded | go_step | go_upon)
              refine bodyPost_ret (results_ct rfl _ _ p2 _ _ (0, 0) _ rfl BZ.out.2.2 rfl rfl Tryd.underlying36 (by kernel_rfl)) rfl ?_
              exact FIN.out _ _ _ _ _ _ BZ.out.grow
            · by_cases hv2 : 2 < ver
              · have FIN := Lib.hid (NO.out 3 (GL.out.1 (.inr (.inr hv2))))
                clear NO YS GL HBB FL HFS
                have BF := Lib.hid (BF.out.tr ((Grow.refl wc).al (.cells #[.int .i64 n1, .int .i64 k1, .int .u64 i1, .slice X1 Y1 Z1] 51)))
                go_upto_region 16 with (at_lookup; refine wpList_lookok _ rfl _ _ _ rfl MM.out rfl keyI Tryd.underlying100 (zeroFld _) (key := .int .i64 1) rfl (intKey (by unfold I64; simp)) (v := .agg #[.int .i64 n1, .int .i64 k1, .int .u64 i1, .slice X1 Y1 Z1]) (ok := true) EL1.out ES1.out ?_)
                generalize wc.alloc (.cells #[.int .i64 n1, .int .i64 k1, .int .u64 i1, .slice X1 Y1 Z1] 51) = wd at *
                -- BF : the box of the layer at the world of the goal, which stands before the region N; FIN : the error
                have BZ := Lib.hid (BF.out.row (cs' := #[.string ⟨#[]⟩, .int .i64 0, .slice none 0 0]))
                go_upto_region 16 with fail
                repeat (first | ((with_reducible refine at_ld ?_); refine wpList_load_row rfl 36 _ rfl p2 rfl 36 _ (0, 0) _ BF.out.2.2 Tryd.underlying36 rfl (by kernel_rfl) ?_) | ((with_reducible refine at_st ?_); refine wpList_store_row rfl 36 _ _ rfl p2 #[.string ⟨#[]⟩, .int .i64 0, .slice none 0 0] rfl rfl 36 _ BF.out.2.2 (by kernel_rfl) rfl (by simp [Value.oneCell']) ?_) | go_values | go_skip | go_guarded | go_step | go_upon)
                refine bodyPost_ret (results_ct rfl _ _ p2 _ _ (0, 0) _ rfl BZ.out.2.2 rfl rfl Tryd.underlying36 (by kernel_rfl)) rfl ?_
                exact FIN.out _ _ _ _ _ _ BZ.out.grow
              · have GV := Lib.hid (GL.out.2 rfl (by omega))
                go_upto_region 17 with (at_lookup; refine wpList_lookok _ rfl _ _ _ rfl MM.out rfl keyI Tryd.underlying100 (zeroFld _) (key := .int .i64 1) rfl (intKey (by unfold I64; simp)) (v := .agg #[.int .i64 n1, .int .i64 k1, .int .u64 i1, .slice X1 Y1 Z1]) (ok := true) EL1.out ES1.out ?_)
                have MM := Lib.hid (MM.out.gr ((Grow.refl wc).al (.cells #[.int .i64 n1, .int .i64 k1, .int .u64 i1, .slice X1 Y1 Z1] 51)))
                have BF := Lib.hid (BF.out.tr ((Grow.refl wc).al (.cells #[.int .i64 n1, .int .i64 k1, .int .u64 i1, .slice X1 Y1 Z1] 51)))
                have G2 := Lib.hid (G2.out.al (.cells #[.int .i64 n1, .int .i64 k1, .int .u64 i1, .slice X1 Y1 Z1] 51))
                generalize wc.alloc (.cells #[.int .i64 n1, .int .i64 k1, .int .u64 i1, .slice X1 Y1 Z1] 51) = wd at *
                have L0 : Hid (LS w1 p2 wd.heap.size m #[.string ⟨#[]⟩, .int .i64 0, .slice none 0 0] mf (.slice none 0 0) (.slice none 0 0) [] [] (wd.alloc (.cells #[.slice none 0 0, .slice none 0 0] 106))) :=
                  ⟨Tn.of (G2.out.al _), (BF.out.tr ((Grow.refl wd).al _)).2.2, heap_alloc_new wd _, World.ownsRow_nil _ _ _ _, World.ownsRow_nil _ _ _ _, ⟨_, MM.out.gr ((Grow.refl wd).al _)⟩, G2.out.size⟩
                clear hv1 hv2 GL MM BF G2
                go_wp2_with fail
                generalize wd.alloc (.cells #[.slice none 0 0, .slice none 0 0] 106) = we at *
                generalize wd.heap.size = p15 at *
                have FL2 := Lib.hid FL.out
                go_loopw [80] (fun i wr => ∃ k : Nat, k ≤ fs.length ∧ i = .int .i64 k ∧ Hid (∃ kv vv V, LS w1 p2 p15 m #[.string ⟨#[]⟩, .int .i64 0, .slice none 0 0] mf kv vv (keysF ((fs.take k).map Fld.fd)) V wr ∧ mapE valE ((numF ((fs.take k).map Fld.fd) 4).map FD.data) = .ok V)) (fun i _ => fs.length - (intOf i).toNat)
                case atStart => exact ⟨0, Nat.zero_le _, rfl, _, _, [], L0.out, rfl⟩
                case round =>
                  clear L0
                  obtain ⟨k, hk, rfl, hls⟩ := hrel
                  obtain ⟨kv, vv, V, hl, hv⟩ := hls.out
                  clear hls
                  by_cases hlt : k < fs.length
                  · obtain ⟨b1, o1, rfl, e1⟩ := rd_flat Fld.cells_len (by decide) (hl.flds FL.out).1 hlt
                    have NX := Lib.hid ((hl.flds FL.out).2 fs[k] (List.getElem_mem hlt))
                    have NB := Lib.hid (HBB.out.dat fs[k].fd (by rw [← HFS.out]; exact List.mem_map.2 ⟨_, List.getElem_mem hlt, rfl⟩))
                    have MT := Lib.hid (mapE_take valE hlt hv)
                    have KT := keysF_take hlt
                    have LK := keysF_le ((fs.take k).map Fld.fd)
                    have LV := valE_len hv
                    rw [List.length_map, List.length_take_of_le hk] at LK LV
                    have CN : fs.length ≤ 1000000 := by have := HBB.out.cnt; rw [← HFS.out, List.length_map] at this; exact this
                    have HL := Lib.hid hl
                    have HV := Lib.hid hv
                    clear hl hv
                    generalize fs[k] = x at *
                    generalize keysF ((fs.take k).map Fld.fd) = K at *
                    obtain ⟨xn, xk, xi, xd, xv⟩ := x
                    obtain ⟨X1, X2, X3, hx1⟩ := Rd.form NX.out.2.2.2
                    dsimp only at hx1
                    subst hx1
                    have d0 := e1 0 _ rfl
                    have d1 := e1 1 _ rfl
                    have d2 := e1 2 _ rfl
                    have d3 := e1 3 _ rfl
                    simp only [Nat.add_zero] at d0
                    clear e1
                    dsimp only at KT
                    have LK := Lib.hid LK
                    have LV := Lib.hid LV
                    have RX : Hid (Rd wr (fun b => b ≠ p2 ∧ b < w1.heap.size) 1 (.slice X1 X2 X3) xd.length (U8 xd)) := NX.out.2.2.2
                    have HN : Hid (I64 xn) := NX.out.1
                    clear NX
                    go_upto_region 21 with fail
                    have BA := Lib.hid (BoxH.laid #[.int .i64 xn, .int .i64 xk, .int .u64 xi, .slice X1 X2 X3] 51 (Grow.refl wr))
                    have GA : Hid (Grow wr (wr.alloc (.cells #[.int .i64 xn, .int .i64 xk, .int .u64 xi, .slice X1 X2 X3] 51))) := (Grow.refl wr).al _
                    clear d0 d1 d2 d3
                    generalize wr.alloc (.cells #[.int .i64 xn, .int .i64 xk, .int .u64 xi, .slice X1 X2 X3] 51) = wa at *
                    generalize wr.heap.size = p17 at *
                    have HL := Lib.hid (HL.out.gr GA.out)
                    have RX := Lib.hid (RX.out.gr2 (by decide) GA.out)
                    have z0 := BA.out.cell 0
                    have z3 := BA.out.cell 3
                    obtain ⟨K1, K3, rfl⟩ := own_slice HL.out.ok
                    obtain ⟨V1, V3, rfl⟩ := own_slice HL.out.ov
                    have y0 := cell_of_row _ _ 0 _ _ _ HL.out.b15
                    have y1 := cell_of_row _ _ 1 _ _ _ HL.out.b15
                    by_cases h3 : xn = 3
                    · subst h3
                      rw [if_pos rfl] at KT
                      have KT := Lib.hid KT
                      have MT := Lib.hid (MT.out.1 (by simp))
                      have cv := str_u8 RX.out
                      have ne : ¬ p17 = p15 := fun e => by
                        have h1 := BA.out.2.2
                        rw [e, HL.out.b15] at h1
                        simp at h1
                      go_wp2_with (at_builtin; refine wpList_put rfl _ _ rfl el_str HL.out.ok rfl 1 _ rfl _ rfl (by decide) rfl (by simp [Value.oneCell']) (by have := LK.out; omega) HL.out.tn.size ?_; intro v2 w2 hown2 hgr2 hb2; obtain ⟨A2, c2, rfl⟩ := own_slice hown2; have HL2 := Lib.hid (HL.out.key (K' := keysF ((fs.take (k + 1)).map Fld.fd)) hgr2 (own_eq hown2 (by rw [KT.out]; simp) (by rw [KT.out]; simp [strs]))); have b15 := (Tn.by_ (D := fun j => (Value.slice K1 K.length K3).ownBlock = some j) hgr2 fun _ e => e).blk HL.out.b15 (own_ne_box HL.out.ok HL.out.b15 (by decide)); have y2 := cell_of_row _ _ 0 _ _ _ b15; have f2 := frozen_of_row _ _ 0 _ _ b15; clear b15 hown2 hgr2 hb2 HL y0 y1)
                      go_roundw
                      case rel => exact ⟨k + 1, by omega, by go_num, _, _, _, HL2.out, MT.out⟩
                      case measure => simp [intOf]; omega
                    · rw [if_neg h3, List.append_nil] at KT
                      have KT := Lib.hid KT
                      by_cases h4 : xn = 4
                      · subst h4
                        have MU := Lib.hid (MT.out.2 rfl)
                        clear MT
                        have NB := Lib.hid (NB.out.2.1 rfl)
                        dsimp only at MU
                        obtain ⟨q, hq⟩ : ∃ q, getS xd = q := ⟨_, rfl⟩
                        obtain ⟨⟨vk, vt, vb⟩, e⟩ := q
                        have VG : Hid (∀ R, (∀ w', Grow wa w' → R (.returned (.tuple #[.agg #[.int .i64 vk, .string vt, .int .u64 vb], .int .i64 e])) w') → Calls Tryd.prog 48 #[.slice X1 X2 X3] wa R) := fun R hR => vget_any xd _ _ wa RX.out NB.out (HT.out.gr (HL.out.grow GW1.out P2.out)) fun w' hg => by have := hR w' hg; rw [hq]; exact this
                        have HQ := Lib.hid hq
                        clear hq y0 y1
                        go_wp2_with fail
                        go_at_call 48
                        refine VG.out _ ?_
                        intro w4 hg4
                        have HL := Lib.hid ((HL.out.gr hg4).gr ((Grow.refl w4).al (.cells #[.int .i64 vk, .string vt, .int .u64 vb] 44)))
                        clear z0 z3 RX BA GA VG
                        by_cases he : e = 0
                        · subst he
                          have MT := Lib.hid (MU.out.2 ⟨vk, vt, vb⟩ (by unfold valE; rw [HQ.out]; rfl))
                          have BV := Lib.hid (BoxH.laid #[.int .i64 vk, .string vt, .int .u64 vb] 44 (Grow.refl w4))
                          clear HQ hg4 NO YS
                          go_upto_region 28 with fail
                          generalize w4.alloc (.cells #[.int .i64 vk, .string vt, .int .u64 vb] 44) = w5 at *
                          generalize w4.heap.size = p18 at *
                          have y1 := cell_of_row _ _ 1 _ _ _ HL.out.b15
                          go_wp2_with (first | ((with_reducible refine at_ld ?_); refine wpList_load_row rfl 44 _ rfl p18 rfl 44 _ (0, 0) _ BV.out.2.2 Tryd.underlying44 rfl (by kernel_rfl) ?_) | (at_builtin; refine wpList_put rfl _ _ rfl el_val HL.out.ov rfl 1 _ rfl _ rfl (by decide) rfl (by simp [Value.oneCell']) (by have := LV.out; omega) HL.out.tn.size ?_; intro v2 w2 hown2 hgr2 hb2; obtain ⟨A2, c2, rfl⟩ := own_slice hown2; have HL2 := Lib.hid (HL.out.val (V' := V ++ [⟨vk, vt, vb⟩]) hgr2 (own_eq hown2 (by simp) (by simp [Vals, Val.cells]))); have b15 := (Tn.by_ (D := fun j => (Value.slice V1 V.length V3).ownBlock = some j) hgr2 fun _ e => e).blk HL.out.b15 (own_ne_box HL.out.ov HL.out.b15 (by decide)); have y2 := cell_of_row _ _ 1 _ _ _ b15; have f2 := frozen_of_row _ _ 1 _ _ b15; clear b15 hown2 hgr2 hb2 HL y1))
                          go_roundw
                          case rel => exact ⟨k + 1, by omega, by go_num, _, _, _, by rw [KT.out]; exact HL2.out, MT.out⟩
                          case measure => simp [intOf]; omega
                        · have t1 : (e != 0) = true := by simp [he]
                          have FIN := Lib.hid (NO.out e (GV.out.1 e (by rw [← HFS.out]; exact MU.out.1 e (by unfold valE; rw [HQ.out]; exact if_pos he))))
                          have BF := Lib.hid (HL.out.box GW1.out P2.out)
                          clear HQ hg4 NO YS MU GV HL HBB HFS FL FL2 HV HT KT
                          -- BF : the box of the layer at the world of the goal, which stands before the region N; FIN : the error
                          have BZ := Lib.hid (BF.out.row (cs' := #[.string ⟨#[]⟩, .int .i64 0, .slice none 0 0]))
                          go_upto_region 27 with fail
                          repeat (first | ((with_reducible refine at_ld ?_); refine wpList_load_row rfl 36 _ rfl p2 rfl 36 _ (0, 0) _ BF.out.2.2 Tryd.underlying36 rfl (by kernel_rfl) ?_) | ((with_reducible refine at_st ?_); refine wpList_store_row rfl 36 _ _ rfl p2 #[.string ⟨#[]⟩, .int .i64 0, .slice none 0 0] rfl rfl 36 _ BF.out.2.2 (by kernel_rfl) rfl (by simp [Value.oneCell']) ?_) | go_values | go_skip | go_guarded | go_step | go_upon)
                          refine bodyPost_ret (results_ct rfl _ _ p2 _ _ (0, 0) _ rfl BZ.out.2.2 rfl rfl Tryd.underlying36 (by kernel_rfl)) rfl ?_
                          exact FIN.out _ _ _ _ _ _ BZ.out.grow
                      · have MT := Lib.hid (MT.out.1 h4)
                        go_wp2
                        go_roundw
                        case rel => exact ⟨k + 1, by omega, by go_num, _, _, _, by rw [KT.out]; exact HL.out, MT.out⟩
                        case measure => simp [intOf]; omega
                  · obtain rfl : k = fs.length := by omega
                    rw [List.take_length, HFS.out] at hl hv
                    have VK : Hid (∀ v ∈ V, VOk v) := fun v hv' => by
                      obtain ⟨d, hd, e⟩ := (mapE_len _ _ hv).2 v hv'
                      obtain ⟨f, hf, rfl⟩ := List.mem_map.1 hd
                      exact valE_ok5 ((HBB.out.dat f (numF_mem f hf)).2.1 (numF_num f hf)) e
                    have KK : Hid (∀ k ∈ keysF (get b).1, k.size ≤ maxLen) := fun k hk => by
                      obtain ⟨f, hf, rfl⟩ := List.mem_map.1 hk
                      have := (HBB.out.dat f (numF_mem f hf)).1
                      show f.data.toArray.size ≤ _
                      rw [List.size_toArray]
                      unfold maxLen
                      omega
                    have CN : fs.length ≤ 1000000 := by have := HBB.out.cnt; rw [← HFS.out, List.length_map] at this; exact this
                    have GF := Lib.hid (GV.out.2 V hv)
                    generalize keysF (get b).1 = K at *
                    have HL := Lib.hid hl
                    have ME : min ext 65537 ≤ 65537 := by omega
                    clear hl hv hk hlt GV HT
                    generalize min ext 65537 = me at *
                    obtain ⟨K1, K3, rfl⟩ := own_slice HL.out.ok
                    obtain ⟨V1, V3, rfl⟩ := own_slice HL.out.ov
                    go_wp2_with fail
                    go_loopw [117] (fun i wr => ∃ k : Nat, k ≤ fs.length ∧ i = .int .i64 k ∧ Hid (∃ fv F, LF w1 p2 p15 m mf (.slice K1 K.length K3) (.slice V1 V.length V3) fv K V F wr ∧ mapE (getF K V) ((numF ((fs.take k).map Fld.fd) 2).map FD.data) = .ok (F.map FtR.pl))) (fun i _ => fs.length - (intOf i).toNat)
                    case atStart => exact ⟨0, Nat.zero_le _, rfl, _, [], ⟨HL.out, World.ownsRow_nil _ _ _ _, by simp, by simp⟩, rfl⟩
                    case round =>
                      clear HL
                      obtain ⟨k, hk, rfl, hls⟩ := hrel
                      obtain ⟨fv, F, hl, hv⟩ := hls.out
                      clear hls
                      by_cases hlt : k < fs.length
                      · obtain ⟨b1, o1, rfl, e1⟩ := rd_flat Fld.cells_len (by decide) (hl.ls.flds FL.out).1 hlt
                        have NX := Lib.hid ((hl.ls.flds FL.out).2 fs[k] (List.getElem_mem hlt))
                        have NB := Lib.hid (HBB.out.dat fs[k].fd (by rw [← HFS.out]; exact List.mem_map.2 ⟨_, List.getElem_mem hlt, rfl⟩))
                        have MT := Lib.hid (mapE_take (getF K V) hlt hv)
                        have LN : Hid (F.length ≤ k) := by
                          have h := (mapE_len _ _ hv).1
                          have h2 : (numF ((fs.take k).map Fld.fd) 2).length ≤ _ := List.length_filter_le _ _
                          simp only [List.length_map, List.length_take_of_le hk] at h h2
                          show _ ≤ _
                          omega
                        have HL := Lib.hid hl
                        clear hl hv
                        generalize fs[k] = x at *
                        obtain ⟨xn, xk, xi, xd, xv⟩ := x
                        obtain ⟨X1, X2, X3, hx1⟩ := Rd.form NX.out.2.2.2
                        dsimp only at hx1
                        subst hx1
                        have d0 := e1 0 _ rfl
                        have d1 := e1 1 _ rfl
                        have d2 := e1 2 _ rfl
                        have d3 := e1 3 _ rfl
                        simp only [Nat.add_zero] at d0
                        clear e1
                        have RX : Hid (Rd wr (fun b => b ≠ p2 ∧ b < w1.heap.size) 1 (.slice X1 X2 X3) xd.length (U8 xd)) := NX.out.2.2.2
                        have HN : Hid (I64 xn) := NX.out.1
                        clear NX
                        go_upto_region 33 with fail
                        have BA := Lib.hid (BoxH.laid #[.int .i64 xn, .int .i64 xk, .int .u64 xi, .slice X1 X2 X3] 51 (Grow.refl wr))
                        have GA : Hid (Grow wr (wr.alloc (.cells #[.int .i64 xn, .int .i64 xk, .int .u64 xi, .slice X1 X2 X3] 51))) := (Grow.refl wr).al _
                        clear d0 d1 d2 d3
                        generalize wr.alloc (.cells #[.int .i64 xn, .int .i64 xk, .int .u64 xi, .slice X1 X2 X3] 51) = wa at *
                        generalize wr.heap.size = p21 at *
                        have HM := Lib.hid (HL.out.gr GA.out)
                        have RY := Lib.hid (RX.out.gr2 (by decide) GA.out)
                        have z0 := BA.out.cell 0
                        have z3 := BA.out.cell 3
                        obtain ⟨F1, F3, rfl⟩ := own_slice HM.out.fo
                        clear HL RX
                        by_cases h2 : xn = 2
                        · subst h2
                          have MU := Lib.hid (MT.out.2 rfl)
                          clear MT
                          dsimp only at MU
                          have FA : Hid (∀ R, (∀ e, getF K V xd = .error e → ∀ h (id : Nat) ty A n c B m d w', Grow wa w' → R (.returned (.tuple #[.agg #[.bool h, .int .u64 id, .int .i64 ty, .slice A n c, .slice B m d], .int .i64 e])) w') →
                              (∀ h id ty A n c B m d AA BB w', getF K V xd = .ok (FtR.pl ⟨⟨h, id, ty, .slice A n c, .slice B m d⟩, AA, BB⟩) → FtR.rd ⟨⟨h, id, ty, .slice A n c, .slice B m d⟩, AA, BB⟩ w' (fun b => wa.heap.size ≤ b) → FtR.ok ⟨⟨h, id, ty, .slice A n c, .slice B m d⟩, AA, BB⟩ → Grow wa w' → R (.returned (.tuple #[.agg #[.bool h, .int .u64 id, .int .i64 ty, .slice A n c, .slice B m d], .int .i64 0])) w') →
                              Calls Tryd.prog 49 #[.agg #[.slice K1 K.length K3, .slice V1 V.length V3], .slice X1 X2 X3] wa R) := fun R h0 h1 =>
                            feature_any K V xd _ _ _ _ _ _ wa (Rd.own HM.out.ls.ok) (Rd.own HM.out.ls.ov) RY.out (NB.out.2.2 rfl) (fun v hv => (VK.out v hv).1) KK.out (fun v hv => (VK.out v hv).2)
                              (fun e he x w' p q hg => by
                                obtain ⟨h, id, ty, pv, av⟩ := x
                                obtain ⟨A, n, c, e1⟩ := p
                                obtain ⟨B, m, d, e2⟩ := q
                                dsimp only at e1 e2
                                subst e1 e2
                                exact h0 e he h id ty A n c B m d w' hg)
                              (fun x w' he hr hk hg => by
                                obtain ⟨A, n, c, B, m, d, e1, e2⟩ := hr.fm
                                obtain ⟨⟨h, id, ty, pv, av⟩, AA, BB⟩ := x
                                dsimp only at e1 e2
                                subst e1 e2
                                exact h1 h id ty A n c B m d AA BB w' he hr hk hg)
                          go_wp2_with ((with_reducible refine at_ld ?_); refine wpList_load_row rfl 106 _ rfl p15 rfl 106 _ (0, 0) _ HM.out.ls.b15 Tryd.underlying106 rfl (by kernel_rfl) ?_)
                          go_at_call 49
                          refine FA.out _ ?_ ?_
                          · intro e hge h id ty A n c B m' d w4 hg4
                            have he := getF_err hge
                            have t1 : (e != 0) = true := by simp [he]
                            have FIN := Lib.hid (NO.out e (GF.out.1 e (by rw [← HFS.out]; exact MU.out.1 e hge)))
                            have BF := Lib.hid (((HM.out.gr hg4).gr ((Grow.refl w4).al (.cells #[.bool h, .int .u64 id, .int .i64 ty, .slice A n c, .slice B m' d] 41))).ls.box GW1.out P2.out)
                            clear FA hg4 NO YS MU GF HM HBB HFS FL FL2 RY z0 z3 BA GA he hge
                            -- BF : the box of the layer at the world of the goal, which stands before the region N; FIN : the error
                            have BZ := Lib.hid (BF.out.row (cs' := #[.string ⟨#[]⟩, .int .i64 0, .slice F1 F.length F3]))
                            go_upto_region 36 with fail
                            repeat (first | ((with_reducible refine at_ld ?_); refine wpList_load_row rfl 36 _ rfl p2 rfl 36 _ (0, 0) _ BF.out.2.2 Tryd.underlying36 rfl (by kernel_rfl) ?_) | ((with_reducible refine at_st ?_); refine wpList_store_row rfl 36 _ _ rfl p2 #[.string ⟨#[]⟩, .int .i64 0, .slice F1 F.length F3] rfl rfl 36 _ BF.out.2.2 (by kernel_rfl) rfl (by simp [Value.oneCell']) ?_) | go_values | go_skip | go_guarded | go_step | go_upon)
                            refine bodyPost_ret (results_ct rfl _ _ p2 _ _ (0, 0) _ rfl BZ.out.2.2 rfl rfl Tryd.underlying36 (by kernel_rfl)) rfl ?_
                            exact FIN.out _ _ _ _ _ _ BZ.out.grow
                          · intro h id ty A n c B m' d AA BB w4 hge hr hk' hg4
                            have HX := Lib.hid ((LS.fresh HM.out hr (Nat.le_refl _) HM.out.ls.tn.size).gr ((Grow.refl w4).al (.cells #[.bool h, .int .u64 id, .int .i64 ty, .slice A n c, .slice B m' d] 41)))
                            have HM2 := Lib.hid ((HM.out.gr hg4).gr ((Grow.refl w4).al (.cells #[.bool h, .int .u64 id, .int .i64 ty, .slice A n c, .slice B m' d] 41)))
                            have BV := Lib.hid (BoxH.laid #[.bool h, .int .u64 id, .int .i64 ty, .slice A n c, .slice B m' d] 41 (Grow.refl w4))
                            have HK := Lib.hid hk'
                            have MU2 := Lib.hid (MU.out.2 _ hge)
                            clear FA hg4 NO YS MU hge hr hk' HM z0 z3 BA GA RY NB
                            go_upto_region 37 with fail
                            generalize w4.alloc (.cells #[.bool h, .int .u64 id, .int .i64 ty, .slice A n c, .slice B m' d] 41) = w5 at *
                            generalize w4.heap.size = p22 at *
                            have y1 := cell_of_row _ _ 2 _ _ _ HM2.out.ls.b2
                            go_wp2_with (first | ((with_reducible refine at_ld ?_); refine wpList_load_row rfl 41 _ rfl p22 rfl 41 _ (0, 0) _ BV.out.2.2 Tryd.underlying41 rfl (by kernel_rfl) ?_) | (at_builtin; refine wpList_put rfl _ _ rfl el_ft HM2.out.fo rfl 1 _ rfl _ rfl (by decide) rfl (by simp [Value.oneCell']) (by have := LN.out; omega) HM2.out.ls.tn.size ?_; intro v2 w2 hown2 hgr2 hb2; obtain ⟨A2, c2, rfl⟩ := own_slice hown2; have HL2 := Lib.hid (HM2.out.feat (x := ⟨⟨h, id, ty, .slice A n c, .slice B m' d⟩, AA, BB⟩) P21.out hgr2 (own_eq hown2 (by simp) (by simp [Fts, FtR.cells, Ft.cells])) (Nat.le_succ _) hb2 HX.out HK.out); have b2 := (Tn.by_ (D := fun j => (Value.slice F1 F.length F3).ownBlock = some j) hgr2 fun _ e => e).blk HM2.out.ls.b2 (own_ne_box HM2.out.fo HM2.out.ls.b2 (by decide)); have y2 := cell_of_row _ _ 2 _ _ _ b2; have f2 := frozen_of_row _ _ 2 _ _ b2; clear b2 hown2 hgr2 hb2 HM2 y1))
                            go_roundw
                            case rel => exact ⟨k + 1, by omega, by go_num, _, _, HL2.out, by rw [MU2.out, List.map_append]; rfl⟩
                            case measure => simp [intOf]; omega
                        · have MU := Lib.hid (MT.out.1 h2)
                          clear MT
                          have t1 : (xn != 2) = true := by simp [h2]
                          go_wp2
                          go_roundw
                          case rel => exact ⟨k + 1, by omega, by go_num, _, _, HM.out, MU.out⟩
                          case measure => simp [intOf]; omega
                      · obtain rfl : k = fs.length := by omega
                        rw [List.take_length, HFS.out] at hv
                        have HL := Lib.hid hl
                        have FIN := Lib.hid fun w' => YS.out ⟨⟨d1.toArray⟩, (me : Int), fv, F⟩ w' (GF.out.2 _ hv)
                        have cv := str_u8 (hl.ls.rd (by decide) R1.out)
                        have BX := Lib.hid (hl.ls.box GW1.out P2.out)
                        obtain ⟨n9, hm9⟩ := hl.ls.mp
                        have MM := Lib.hid hm9
                        have XR : Hid (LyR.rd ⟨⟨d1.toArray⟩, (me : Int), fv, F⟩ wr (fun b => w.heap.size ≤ b ∧ b ≠ p2)) := (LF.lyr hl).into fun b hb => by
                          have := GW1.out.size
                          have := P21.out
                          omega
                        have XO : Hid (LyR.ok ⟨⟨d1.toArray⟩, (me : Int), fv, F⟩) := ⟨by
                          show d1.toArray.size ≤ _
                          have := D1.out
                          rw [List.size_toArray]
                          unfold maxLen
                          omega, by unfold I64; show _ ≤ (me : Int) ∧ (me : Int) ≤ _; omega, hl.ok⟩
                        obtain ⟨F1, F3, rfl⟩ := own_slice hl.fo
                        clear hl hv hk hlt NO YS GF HL hm9 VK KK
                        have y0 := BX.out.cell 0
                        have f0 := BX.out.free 0
                        have y1 := (BX.out.set 0 (.string ⟨d1.toArray⟩)).cell 1
                        have f1 := (BX.out.set 0 (.string ⟨d1.toArray⟩)).free 1
                        go_upto_region 40 with (at_lookup; refine wpList_look1 _ rfl _ _ _ rfl MM.out rfl keyI Tryd.underlying100 (zeroFld _) (key := .int .i64 1) rfl (intKey (by unfold I64; simp)) (v := .agg #[.int .i64 n1, .int .i64 k1, .int .u64 i1, .slice X1 Y1 Z1]) EL1.out ?_)
                        have BF : Hid (BoxH w p2 #[.string ⟨d1.toArray⟩, .int .i64 (me : Int), .slice F1 F.length F3] 36 ((wr.setCell ⟨p2, 0, none⟩ (.string ⟨d1.toArray⟩)).setCell ⟨p2, 1, none⟩ (.int .i64 (me : Int)))) := (BX.out.set 0 _).set 1 _
                        have XS := Lib.hid ((XR.out.set (p := p2) (j := 0) (u := .string ⟨d1.toArray⟩) fun b hb => hb.2).set (p := p2) (j := 1) (u := .int .i64 (me : Int)) fun b hb => hb.2)
                        clear y0 y1 f0 f1 cv BX XR
                        generalize (wr.setCell ⟨p2, 0, none⟩ (.string ⟨d1.toArray⟩)).setCell ⟨p2, 1, none⟩ (.int .i64 (me : Int)) = wz at *
                        have BZ := Lib.hid (BF.out.row (cs' := #[.string ⟨d1.toArray⟩, .int .i64 (me : Int), .slice F1 F.length F3]))
                        repeat (first | ((with_reducible refine at_ld ?_); refine wpList_load_row rfl 36 _ rfl p2 rfl 36 _ (0, 0) _ BF.out.2.2 Tryd.underlying36 rfl (by kernel_rfl) ?_) | ((with_reducible refine at_st ?_); refine wpList_store_row rfl 36 _ _ rfl p2 #[.string ⟨d1.toArray⟩, .int .i64 (me : Int), .slice F1 F.length F3] rfl rfl 36 _ BF.out.2.2 (by kernel_rfl) rfl (by simp [Value.oneCell']) ?_) | go_values | go_skip | go_guarded | go_step | go_upon)
                        refine bodyPost_ret (results_ct rfl _ _ p2 _ _ (0, 0) _ rfl BZ.out.2.2 rfl rfl Tryd.underlying36 (by kernel_rfl)) rfl ?_
                        exact FIN.out _ ((XS.out.rowS fun b hb => hb.2).into fun b hb => hb.1) XO.out BZ.out.grow
  · have t1 : ((get b).2 != 0) = true := by simp [he]
    have FIN := Lib.hid (NO.out (get b).2 (by unfold getLy; rw [if_pos he]))
    clear NO YS HBB FL HFS he
    generalize (get b).2 = e at *
    -- BF : the box of the layer at the world of the goal, which stands before the region N; FIN : the error
    have BZ := Lib.hid (BF.out.row (cs' := #[.string ⟨#[]⟩, .int .i64 0, .slice none 0 0]))
    go_upto_region 3 with fail
    repeat (first | ((with_reducible refine at_ld ?_); refine wpList_load_row rfl 36 _ rfl p2 rfl 36 _ (0, 0) _ BF.out.2.2 Tryd.underlying36 rfl (by kernel_rfl) ?_) | ((with_reducible refine at_st ?_); refine wpList_store_row rfl 36 _ _ rfl p2 #[.string ⟨#[]⟩, .int .i64 0, .slice none 0 0] rfl rfl 36 _ BF.out.2.2 (by kernel_rfl) rfl (by simp [Value.oneCell']) ?_) | go_values | go_skip | go_guarded | go_step | go_upon)
    refine bodyPost_ret (results_ct rfl _ _ p2 _ _ (0, 0) _ rfl BZ.out.2.2 rfl rfl Tryd.underlying36 (by kernel_rfl)) rfl ?_
    exact FIN.out _ _ _ _ _ _ BZ.out.grow
end Go.Proofs.YtjalimkajcjapaaDoor
