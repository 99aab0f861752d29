/-
  From the form's own reading of an argument to what my walks take. No program is named here. The openings once more, with what the reach says of each slice. No program is named here.
-/
import Derived.Test.YtjalimkajcjapaaDoorCore
import Derived.ProofKit
import Derived.OpenShut
import Derived.ShutString
import Derived.ChangeOld
import Derived.Deep.Slices
import Derived.Lib.SmallJoins
import Derived.SizedLaws
namespace Go.Proofs.YtjalimkajcjapaaDoor
open Go.RowKit Go.ChangeShapes Go.WideShapes Go.Deep

section
variable {H : Type} {enc : TypeId × Value → H} {P : Program} {w : World}

theorem choose_list {α : Type} (g : α → List Value) (p : α → Prop) (n : Nat) (cs : Nat → List Value) (h : ∀ i, i < n → ∃ a, cs i = g a ∧ p a) :
    ∃ l : List α, l.length = n ∧ (List.range n).flatMap cs = l.flatMap g ∧ ∀ a ∈ l, p a := by
  induction n with
  | zero => exact ⟨[], rfl, rfl, by simp⟩
  | succ n ih =>
    obtain ⟨l, h1, h2, h3⟩ := ih (fun i hi => h i (by omega))
    obtain ⟨a, h4, h5⟩ := h n (by omega)
    refine ⟨l ++ [a], by simp [h1], ?_, ?_⟩
    · rw [List.range_succ, List.flatMap_append, List.flatMap_append, h2]
      simp [h4]
    · intro b hb
      rcases List.mem_append.1 hb with hb | hb
      · exact h3 b hb
      · obtain rfl := List.mem_singleton.1 hb
        exact h5

/-- A slice that is read: its elements' cells. -/
theorem open_rd {t e : TypeId} {size fuel : Nat} {v : Value} {x : DataW H × List MemPlace} (ht : P.underlying t = some (.slice e)) (hsz : P.cellsOf e = size) (h0 : 0 < size)
    (h : DataW.trod enc P w 0 (fun _ => true) true fuel t [v] = some x) :
    ∃ (n : Nat) (cs : Nat → List Value), Rd w (fun _ => True) size v n ((List.range n).flatMap cs) ∧ ∀ i, i < n → ∃ m y, DataW.trod enc P w 0 (fun _ => true) true m e (cs i) = some y := by
  subst hsz
  rcases open_slice ht h with ⟨h1, _⟩ | ⟨a, len, cap, m, k, D, Pl, h1, _, hl, hm, hmm, _, hx⟩
  · obtain rfl : v = .slice none 0 0 := by simpa using h1
    exact ⟨0, fun _ => [], Rd.nil, fun i hi => by omega⟩
  · obtain rfl : v = .slice (some a) len cap := by simpa using h1
    have hlm : len ≤ m := by rw [hmm]; split <;> omega
    obtain ⟨cs, hcs⟩ := choose_lt (α := List Value) (p := fun i cs' => w.cells? 0 (a.add (i * P.cellsOf e)) (P.cellsOf e) = some cs' ∧ DataW.trod enc P w 0 (fun _ => true) true k e cs' = some (D i, Pl i)) (n := m) hx
    refine ⟨len, cs, ⟨?_, some a, cap, rfl, hl, hm, fun hh => (nomatch hh), fun hn => ?_⟩, fun i hi => ⟨k, _, (hcs i (by omega)).2⟩⟩
    · have hlen : ∀ n, n ≤ len → ((List.range n).flatMap cs).length = n * P.cellsOf e := by
        intro n
        induction n with
        | zero => simp
        | succ n ih =>
          intro hn
          rw [List.range_succ, List.flatMap_append, List.length_append, ih (by omega), Nat.add_mul]
          have := (World.cells?_some (hcs n (by omega)).1).2.1
          simp [this]
      exact hlen len (Nat.le_refl _)
    · have hc0 := (hcs 0 (by omega)).1
      obtain ⟨_, hl0, hc0⟩ := World.cells?_some hc0
      have hcell0 := hc0 0 h0
      rw [List.getElem?_eq_getElem (by omega)] at hcell0
      have hsp := World.cell?_spot hcell0
      obtain ⟨b, o, sp⟩ := a
      have hsp' : sp = none := by
        simp only [Addr.add, Nat.zero_mul] at hsp
        simpa using hsp
      subst hsp'
      refine ⟨b, o, rfl, trivial, ?_⟩
      have key : ∀ n, n ≤ len → ∀ j u, ((List.range n).flatMap cs)[j]? = some u → w.cell? ⟨b, o + j, none⟩ = some u := by
        intro n
        induction n with
        | zero => intro _ j u hj; simp at hj
        | succ n ih =>
          intro hn j u hj
          rw [List.range_succ, List.flatMap_append] at hj
          have hln : ((List.range n).flatMap cs).length = n * P.cellsOf e := by
            clear hj ih
            induction n with
            | zero => simp
            | succ n ih2 =>
              rw [List.range_succ, List.flatMap_append, List.length_append, ih2 (by omega), Nat.add_mul]
              have := (World.cells?_some (hcs n (by omega)).1).2.1
              simp [this]
          rcases Nat.lt_or_ge j (n * P.cellsOf e) with hlt | hge
          · rw [List.getElem?_append_left (by omega)] at hj
            exact ih (by omega) j u hj
          · rw [List.getElem?_append_right (by omega), hln] at hj
            have hj' : (cs n)[j - n * P.cellsOf e]? = some u := by simpa using hj
            obtain ⟨_, hl1, hc1⟩ := World.cells?_some (hcs n (by omega)).1
            have hlt : j - n * P.cellsOf e < P.cellsOf e := by have := (List.getElem?_eq_some_iff.1 hj').1; omega
            have hc2 := hc1 _ hlt
            rw [Addr.add_lit, Addr.add_lit] at hc2
            rw [show o + j = o + n * P.cellsOf e + (j - n * P.cellsOf e) by omega, hc2, hj']
      exact key len (Nat.le_refl _)

/-- .. as a list of what the elements are. -/
theorem open_list {t e : TypeId} {size fuel : Nat} {v : Value} {x : DataW H × List MemPlace} {α : Type} (g : α → List Value) (p : α → Prop) (ht : P.underlying t = some (.slice e)) (hsz : P.cellsOf e = size) (h0 : 0 < size)
    (hel : ∀ m cs y, DataW.trod enc P w 0 (fun _ => true) true m e cs = some y → ∃ a, cs = g a ∧ p a)
    (h : DataW.trod enc P w 0 (fun _ => true) true fuel t [v] = some x) :
    ∃ l : List α, Rd w (fun _ => True) size v l.length (l.flatMap g) ∧ ∀ a ∈ l, p a := by
  obtain ⟨n, cs, h1, h2⟩ := open_rd ht hsz h0 h
  obtain ⟨l, h3, h4, h5⟩ := choose_list g p n cs (fun i hi => by obtain ⟨m, y, hy⟩ := h2 i hi; exact hel m _ y hy)
  refine ⟨l, ?_, h5⟩
  rw [h3, ← h4]
  exact h1

theorem byte_cell {n : Int} (h : (Lit.int .u8 n).wf = true) : Value.int .u8 n = .int .u8 ((UInt8.ofNat n.toNat).toNat : Int) := by
  have := bounds_u8 h
  have e : (UInt8.ofNat n.toNat).toNat = n.toNat := by rw [UInt8.toNat_ofNat']; omega
  rw [e]
  congr 1
  omega

theorem U8_flat (l : List UInt8) : (l.flatMap fun b => [Value.int .u8 (b.toNat : Int)]) = U8 l := by
  induction l with
  | nil => rfl
  | cons a l ih => rw [List.flatMap_cons, ih]; rfl

/-- a []byte -/
theorem open_u8 {t e : TypeId} {fuel : Nat} {v : Value} {x : DataW H × List MemPlace} (ht : P.underlying t = some (.slice e)) (he : P.underlying e = some (.int .u8)) (hsz : P.cellsOf e = 1)
    (h : DataW.trod enc P w 0 (fun _ => true) true fuel t [v] = some x) : ∃ l : List UInt8, Rd w (fun _ => True) 1 v l.length (U8 l) := by
  obtain ⟨l, h1, _⟩ := open_list (fun b : UInt8 => [Value.int .u8 (b.toNat : Int)]) (fun _ => True) ht hsz (by decide) (fun m cs y hy => by
    obtain ⟨n, rfl, _, hw⟩ := DataW.trod_int he hy
    exact ⟨_, by rw [byte_cell hw], trivial⟩) h
  rw [U8_flat] at h1
  exact ⟨l, h1⟩

/-- a []uint32 -/
theorem open_u32 {t e : TypeId} {fuel : Nat} {v : Value} {x : DataW H × List MemPlace} (ht : P.underlying t = some (.slice e)) (he : P.underlying e = some (.int .u32)) (hsz : P.cellsOf e = 1)
    (h : DataW.trod enc P w 0 (fun _ => true) true fuel t [v] = some x) : ∃ l : List Int, Rd w (fun _ => True) 1 v l.length (l.map (Value.int .u32)) ∧ ∀ n ∈ l, 0 ≤ n ∧ n ≤ 4294967295 := by
  obtain ⟨l, h1, h2⟩ := open_list (fun n : Int => [Value.int .u32 n]) (fun n => 0 ≤ n ∧ n ≤ 4294967295) ht hsz (by decide) (fun m cs y hy => by
    obtain ⟨n, rfl, _, hw⟩ := DataW.trod_int he hy
    exact ⟨_, rfl, bounds_u32 hw⟩) h
  refine ⟨l, ?_, h2⟩
  have e : (l.flatMap fun n => [Value.int .u32 n]) = l.map (Value.int .u32) := by
    clear h1 h2
    induction l with
    | nil => rfl
    | cons a l ih => rw [List.flatMap_cons, ih]; rfl
  rw [e] at h1
  exact h1
end
end Go.Proofs.YtjalimkajcjapaaDoor

namespace Go.Proofs.YtjalimkajcjapaaDoor
open Go.RowKit Go.ChangeShapes Go.WideShapes Go.Deep

section
variable {H : Type} {enc : TypeId × Value → H} {P : Program} {w : World}

/-- no part of the datum is beyond the reach -/
def Light (P : Program) (t : TypeId) (d : DataW H) : Prop := ∀ n ∈ d.weights P t, n ≤ reachBytes

theorem light_of {ts : List TypeId} {ds : List (DataW H)} (h : (DataW.weightsEach P ts ds).all (· ≤ reachBytes) = true) {j : Nat} {t : TypeId} {d : DataW H} (ht : ts[j]? = some t) (hd : ds[j]? = some d) : Light P t d := by
  intro n hn
  have := List.all_eq_true.1 h n (DataW.weights_mem_each ht hd n hn)
  simpa using this

theorem weightsAll_mem {e : TypeId} {d : DataW H} {n : Nat} (hn : n ∈ d.weights P e) : ∀ {l : List (DataW H)}, d ∈ l → n ∈ DataW.weightsAll P e l
  | x :: l, h => by
    rw [DataW.weightsAll, List.mem_append]
    rcases List.mem_cons.1 h with rfl | h
    · exact .inl hn
    · exact .inr (weightsAll_mem hn h)

theorem light_struct {t : TypeId} {fs : Array Field} {parts : List (DataW H)} (ht : P.underlying t = some (.struct fs)) (h : Light P t (.agg parts)) {j : Nat} {f : Field} {d : DataW H} (hf : fs.toList[j]? = some f) (hd : parts[j]? = some d) : Light P f.type d := by
  intro n hn
  refine h n ?_
  rw [DataW.weights, ht]
  exact DataW.weights_mem_each (by simp [hf]) hd n hn

theorem open_rdS {t e : TypeId} {size fuel : Nat} {v : Value} {x : DataW H × List MemPlace} (ht : P.underlying t = some (.slice e)) (hsz : P.cellsOf e = size) (h0 : 0 < size)
    (h : DataW.trod enc P w 0 (fun _ => true) true fuel t [v] = some x) (hL : Light P t x.1) :
    ∃ (n : Nat) (cs : Nat → List Value), Rd w (fun _ => True) size v n ((List.range n).flatMap cs) ∧ n * P.bytesOf e ≤ reachBytes ∧ ∀ i, i < n → ∃ m y, DataW.trod enc P w 0 (fun _ => true) true m e (cs i) = some y ∧ Light P e y.1 := by
  subst hsz
  rcases open_slice ht h with ⟨h1, _⟩ | ⟨a, len, cap, m, k, D, Pl, h1, _, hl, hm, hmm, hxx, hx⟩
  · obtain rfl : v = .slice none 0 0 := by simpa using h1
    exact ⟨0, fun _ => [], Rd.nil, by simp, fun i hi => by omega⟩
  · obtain rfl : v = .slice (some a) len cap := by simpa using h1
    have hlm : len ≤ m := by rw [hmm]; split <;> omega
    obtain ⟨cs, hcs⟩ := choose_lt (α := List Value) (p := fun i cs' => w.cells? 0 (a.add (i * P.cellsOf e)) (P.cellsOf e) = some cs' ∧ DataW.trod enc P w 0 (fun _ => true) true k e cs' = some (D i, Pl i)) (n := m) hx
    subst hxx
    have hbytes : len * P.bytesOf e ≤ reachBytes := by
      have := hL ((((List.range len).map D).length + ((List.range (m - len)).map fun j => D (len + j)).length) * P.bytesOf e) (by simp [DataW.weights, ht])
      refine Nat.le_trans (Nat.mul_le_mul_right _ ?_) this
      simp
    have hlight : ∀ i, i < len → Light P e (D i) := by
      intro i hi n hn
      refine hL n ?_
      rw [DataW.weights, ht]
      exact List.mem_cons_of_mem _ (List.mem_append_left _ (weightsAll_mem hn (List.mem_map_of_mem (List.mem_range.2 hi))))
    obtain ⟨n', cs', hrd, _⟩ := open_rd ht rfl h0 h
    have hn' : n' = len := by
      obtain ⟨_, A, c, hv, _⟩ := hrd
      injection hv with _ hv _
      exact hv.symm
    subst hn'
    refine ⟨n', cs, ?_, hbytes, fun i hi => ⟨k, _, (hcs i (by omega)).2, hlight i hi⟩⟩
    · refine ⟨?_, some a, cap, rfl, hl, hm, fun hh => (nomatch hh), fun hn => ?_⟩
      · have hlen : ∀ n, n ≤ n' → ((List.range n).flatMap cs).length = n * P.cellsOf e := by
          intro n
          induction n with
          | zero => simp
          | succ n ih =>
            intro hn
            rw [List.range_succ, List.flatMap_append, List.length_append, ih (by omega), Nat.add_mul]
            have := (World.cells?_some (hcs n (by omega)).1).2.1
            simp [this]
        exact hlen n' (Nat.le_refl _)
      · have hc0 := (hcs 0 (by omega)).1
        obtain ⟨_, hl0, hc0⟩ := World.cells?_some hc0
        have hcell0 := hc0 0 h0
        rw [List.getElem?_eq_getElem (by omega)] at hcell0
        have hsp := World.cell?_spot hcell0
        obtain ⟨b, o, sp⟩ := a
        have hsp' : sp = none := by
          simp only [Addr.add, Nat.zero_mul] at hsp
          simpa using hsp
        subst hsp'
        refine ⟨b, o, rfl, trivial, ?_⟩
        have key : ∀ n, n ≤ n' → ∀ j u, ((List.range n).flatMap cs)[j]? = some u → w.cell? ⟨b, o + j, none⟩ = some u := by
          intro n
          induction n with
          | zero => intro _ j u hj; simp at hj
          | succ n ih =>
            intro hn j u hj
            rw [List.range_succ, List.flatMap_append] at hj
            have hln : ((List.range n).flatMap cs).length = n * P.cellsOf e := by
              clear hj ih
              induction n with
              | zero => simp
              | succ n ih2 =>
                rw [List.range_succ, List.flatMap_append, List.length_append, ih2 (by omega), Nat.add_mul]
                have := (World.cells?_some (hcs n (by omega)).1).2.1
                simp [this]
            rcases Nat.lt_or_ge j (n * P.cellsOf e) with hlt | hge
            · rw [List.getElem?_append_left (by omega)] at hj
              exact ih (by omega) j u hj
            · rw [List.getElem?_append_right (by omega), hln] at hj
              have hj' : (cs n)[j - n * P.cellsOf e]? = some u := by simpa using hj
              obtain ⟨_, hl1, hc1⟩ := World.cells?_some (hcs n (by omega)).1
              have hlt : j - n * P.cellsOf e < P.cellsOf e := by have := (List.getElem?_eq_some_iff.1 hj').1; omega
              have hc2 := hc1 _ hlt
              rw [Addr.add_lit, Addr.add_lit] at hc2
              rw [show o + j = o + n * P.cellsOf e + (j - n * P.cellsOf e) by omega, hc2, hj']
        exact key n' (Nat.le_refl _)

theorem open_listS {t e : TypeId} {size fuel : Nat} {v : Value} {x : DataW H × List MemPlace} {α : Type} (g : α → List Value) (p : α → Prop) (ht : P.underlying t = some (.slice e)) (hsz : P.cellsOf e = size) (h0 : 0 < size)
    (hel : ∀ m cs y, DataW.trod enc P w 0 (fun _ => true) true m e cs = some y → Light P e y.1 → ∃ a, cs = g a ∧ p a)
    (h : DataW.trod enc P w 0 (fun _ => true) true fuel t [v] = some x) (hL : Light P t x.1) :
    ∃ l : List α, Rd w (fun _ => True) size v l.length (l.flatMap g) ∧ l.length * P.bytesOf e ≤ reachBytes ∧ ∀ a ∈ l, p a := by
  obtain ⟨n, cs, h1, hb, h2⟩ := open_rdS ht hsz h0 h hL
  obtain ⟨l, h3, h4, h5⟩ := choose_list g p n cs (fun i hi => by obtain ⟨m, y, hy, hy2⟩ := h2 i hi; exact hel m _ y hy hy2)
  refine ⟨l, ?_, by rw [h3]; exact hb, h5⟩
  rw [h3, ← h4]
  exact h1

/-- a []byte, with its reach -/
theorem open_u8S {t e : TypeId} {fuel : Nat} {v : Value} {x : DataW H × List MemPlace} (ht : P.underlying t = some (.slice e)) (he : P.underlying e = some (.int .u8)) (hsz : P.cellsOf e = 1) (hby : P.bytesOf e = 1)
    (h : DataW.trod enc P w 0 (fun _ => true) true fuel t [v] = some x) (hL : Light P t x.1) : ∃ l : List UInt8, Rd w (fun _ => True) 1 v l.length (U8 l) ∧ l.length ≤ reachBytes := by
  obtain ⟨l, h1, hb, _⟩ := open_listS (fun b : UInt8 => [Value.int .u8 (b.toNat : Int)]) (fun _ => True) ht hsz (by decide) (fun m cs y hy _ => by
    obtain ⟨n, rfl, _, hw⟩ := DataW.trod_int he hy
    exact ⟨_, by rw [byte_cell hw], trivial⟩) h hL
  rw [U8_flat] at h1
  rw [hby, Nat.mul_one] at hb
  exact ⟨l, h1, hb⟩
end
end Go.Proofs.YtjalimkajcjapaaDoor
