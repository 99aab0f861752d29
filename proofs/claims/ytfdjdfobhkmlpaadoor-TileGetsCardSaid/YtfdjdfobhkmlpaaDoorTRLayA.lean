/-
  Tiles got of bytes, as the reference makes it: one, kinds. Tiles got of bytes, as the reference makes it: a feature. Tiles got of bytes, as the reference makes it: what a layer's keys, values and features under way keep. Tiles got of bytes, as the reference makes it: a layer.
-/
import Derived.Test.YtfdjdfobhkmlpaaDoorChecked
import Derived.Test.YtfdjdfobhkmlpaaDoorTLayA
import Derived.Test.YtfdjdfobhkmlpaaDoorRGet
import Derived.Test.YtfdjdfobhkmlpaaDoorTGet
import Derived.Test.YtfdjdfobhkmlpaaDoorVRGet
namespace Go.Proofs.YtfdjdfobhkmlpaaDoor
open Go.RowKit B

def oneG (n : Int) : List Fld → Nat → Int → Int
  | [], _, at_ => at_
  | f :: l, i, at_ => if f.num = n then (if 0 ≤ at_ then -2 else oneG n l (i + 1) i) else oneG n l (i + 1) at_
def oneF (fs : List Fld) (n : Int) : Int := oneG n fs 0 (-1)
theorem numF_cons (f : Fld) (l : List Fld) (n : Int) : numF ((f :: l).map Fld.fd) n = (if f.num = n then [f.fd] else []) ++ numF (l.map Fld.fd) n := by
  unfold numF
  rw [List.map_cons, List.filter_cons]
  have e : f.fd.num = f.num := rfl
  by_cases h : f.num = n <;> simp [e, h]
theorem oneG_some (n : Int) : ∀ (l : List Fld) (i : Nat) (a : Int), 0 ≤ a → (numF (l.map Fld.fd) n = [] ∧ oneG n l i a = a) ∨ (1 ≤ (numF (l.map Fld.fd) n).length ∧ oneG n l i a = -2)
  | [], i, a, h => .inl ⟨rfl, rfl⟩
  | f :: l, i, a, h => by
    rw [numF_cons]
    unfold oneG
    by_cases hf : f.num = n
    · rw [if_pos hf, if_pos hf, if_pos h]
      exact .inr ⟨by simp, rfl⟩
    · rw [if_neg hf, if_neg hf]
      exact oneG_some n l (i + 1) a h
theorem oneG_none (n : Int) : ∀ (l : List Fld) (i : Nat), (numF (l.map Fld.fd) n = [] ∧ oneG n l i (-1) = -1) ∨ (∃ (j : Nat) (hj : j < l.length), l[j].num = n ∧ numF (l.map Fld.fd) n = [l[j].fd] ∧ oneG n l i (-1) = ((i + j : Nat) : Int)) ∨ (2 ≤ (numF (l.map Fld.fd) n).length ∧ oneG n l i (-1) = -2)
  | [], i => .inl ⟨rfl, rfl⟩
  | f :: l, i => by
    rw [numF_cons]
    unfold oneG
    by_cases hf : f.num = n
    · rw [if_pos hf, if_pos hf, if_neg (by omega)]
      rcases oneG_some n l (i + 1) (i : Int) (by omega) with ⟨h1, h2⟩ | ⟨h1, h2⟩
      · exact .inr (.inl ⟨0, by simp, hf, by rw [h1]; rfl, by rw [h2]; rfl⟩)
      · exact .inr (.inr ⟨by rw [List.length_append, List.length_singleton]; omega, h2⟩)
    · rw [if_neg hf, if_neg hf, List.nil_append]
      rcases oneG_none n l (i + 1) with h | ⟨j, hj, h1, h2, h3⟩ | h
      · exact .inl h
      · exact .inr (.inl ⟨j + 1, by simpa using hj, h1, h2, by rw [h3]; congr 1; omega⟩)
      · exact .inr (.inr h)
theorem oneF_is (fs : List Fld) (n : Int) : (numF (fs.map Fld.fd) n = [] ∧ oneF fs n = -1) ∨ (∃ (j : Nat) (hj : j < fs.length), fs[j].num = n ∧ numF (fs.map Fld.fd) n = [fs[j].fd] ∧ oneF fs n = (j : Int)) ∨ (2 ≤ (numF (fs.map Fld.fd) n).length ∧ oneF fs n = -2) := by
  have := oneG_none n fs 0
  simpa [oneF] using this
theorem fld_cells {w : World} {S : Nat → Prop} {A : Option Addr} {c : Nat} {fs : List Fld} (h : Flds w S (.slice A fs.length c) fs) {k : Nat} (hk : k < fs.length) :
    ∃ b o, A = some ⟨b, o, none⟩ ∧ w.cell? ⟨b, o + k * 4, none⟩ = some (.int .i64 fs[k].num) ∧ w.cell? ⟨b, o + k * 4 + 1, none⟩ = some (.int .i64 fs[k].kind) ∧ w.cell? ⟨b, o + k * 4 + 2, none⟩ = some (.int .u64 fs[k].int) ∧ w.cell? ⟨b, o + k * 4 + 3, none⟩ = some fs[k].dv := by
  obtain ⟨b, o, e, h⟩ := rd_flat Fld.cells_len (by decide) h.1 hk
  exact ⟨b, o, e, h 0 _ rfl, h 1 _ rfl, h 2 _ rfl, h 3 _ rfl⟩

set_option maxRecDepth 100000 in
set_option maxHeartbeats 2000000 in
theorem one_any (fs : List Fld) (lv : Value) (n : Int) (S : Nat → Prop) (w : World) (hl : Flds w S lv fs) (hn : fs.length ≤ 1000000) {R : Ending → World → Prop} (hR : R (.returned (.int .i64 (oneF fs n))) w) :
    Calls Tryd.prog 78 #[lv, .int .i64 n] w R := by
  obtain ⟨A, c0, c, e⟩ := hl.1.form
  subst e
  obtain rfl : c0 = fs.length := by obtain ⟨_, _, _, e, _⟩ := hl.1; injection e
  have HL := Lib.hid hl
  have HR := Lib.hid hR
  clear hl hR
  go_enter Tryd.func78, Tryd.ntmps78
  go_wp2
  go_loop [6, 5] (fun i a => ∃ (k : Nat) (at_ : Int), k ≤ fs.length ∧ i = .int .i64 k ∧ a = .int .i64 at_ ∧ Hid (-1 ≤ at_ ∧ at_ ≤ 1000000) ∧ Hid (oneG n (fs.drop k) k at_ = oneF fs n)) (fun i _ => fs.length - (intOf i).toNat)
  case atStart => exact ⟨0, -1, Nat.zero_le _, rfl, rfl, ⟨by omega, by omega⟩, rfl⟩
  case round =>
    obtain ⟨k, at_, hk, rfl, rfl, hb, ho⟩ := hrel
    by_cases hlt : k < fs.length
    · obtain ⟨b1, o1, rfl, d0, -, -, -⟩ := fld_cells HL.out hlt
      have ho := ho.out
      rw [List.drop_eq_getElem_cons hlt] at ho
      unfold oneG at ho
      have HO := Lib.hid ho
      clear ho
      generalize fs[k].num = xn at *
      by_cases hx : xn = n
      · by_cases ha : 0 ≤ at_
        · have FIN := Lib.hid HR.out
          have e : oneF fs n = -2 := by have := HO.out; rw [if_pos hx, if_pos ha] at this; exact this.symm
          rw [e] at FIN
          have t1 : (xn == n) = true := by simp [hx]
          clear HO HR e hb
          subst hx
          go_wp2
          exact FIN.out
        · have OK : Hid (oneG n (fs.drop (k + 1)) (k + 1) (k : Int) = oneF fs n) := by have := HO.out; rw [if_pos hx, if_neg ha] at this; exact this
          clear HO hb
          subst hx
          go_wp2
          go_round
          case rel => exact ⟨k + 1, k, by omega, by go_num, rfl, ⟨by omega, by omega⟩, OK.out⟩
          case measure => simp [intOf]; omega
      · have OK : Hid (oneG n (fs.drop (k + 1)) (k + 1) at_ = oneF fs n) := by have := HO.out; rw [if_neg hx] at this; exact this
        have t1 : (xn == n) = false := by simp [hx]
        clear HO
        go_wp2
        go_round
        case rel => exact ⟨k + 1, at_, by omega, by go_num, rfl, hb.out, OK.out⟩
        case measure => simp [intOf]; omega
    · obtain rfl : k = fs.length := by omega
      have ho := ho.out
      rw [List.drop_length] at ho
      have e : oneF fs n = at_ := ho.symm
      have FIN := Lib.hid HR.out
      rw [e] at FIN
      clear HR ho e hb
      go_wp2
      exact FIN.out

/-- what a text of kinds says of a field -/
def kindB (want : List UInt8) (f : Fld) : Bool := match want[f.num.toNat]? with
  | some 118 => decide (f.kind = 0)
  | some 98 => decide (f.kind = 2)
  | _ => true
def kindsB (want : List UInt8) (fs : List Fld) : Bool := fs.all (kindB want)
set_option maxRecDepth 100000 in
set_option maxHeartbeats 4000000 in
theorem kinds_any (fs : List Fld) (lv : Value) (s : ByteArray) (S : Nat → Prop) (w : World) (hl : Flds w S lv fs) (hn : fs.length ≤ 1000000) (hp : ∀ f ∈ fs, 0 ≤ f.num) {R : Ending → World → Prop} (hR : R (.returned (.bool (kindsB s.data.toList fs))) w) :
    Calls Tryd.prog 79 #[lv, .string s] w R := by
  obtain ⟨A, c0, c, e⟩ := hl.1.form
  subst e
  obtain rfl : c0 = fs.length := by obtain ⟨_, _, _, e, _⟩ := hl.1; injection e
  have HL := Lib.hid hl
  have HR := Lib.hid hR
  have HP := Lib.hid hp
  clear hl hR hp
  go_enter Tryd.func79, Tryd.ntmps79
  go_wp2
  go_loop [5] (fun i => ∃ (k : Nat), k ≤ fs.length ∧ i = .int .i64 k ∧ Hid (kindsB s.data.toList (fs.drop k) = kindsB s.data.toList fs)) (fun i => fs.length - (intOf i).toNat)
  case atStart => exact ⟨0, Nat.zero_le _, rfl, rfl⟩
  case round =>
    obtain ⟨k, hk, rfl, ho⟩ := hrel
    by_cases hlt : k < fs.length
    · obtain ⟨b1, o1, rfl, d0, d1, -, -⟩ := fld_cells HL.out hlt
      have h0 := HP.out _ (List.getElem_mem hlt)
      have ho := ho.out
      rw [List.drop_eq_getElem_cons hlt] at ho
      have e : kindsB s.data.toList (fs[k] :: fs.drop (k + 1)) = (kindB s.data.toList fs[k] && kindsB s.data.toList (fs.drop (k + 1))) := rfl
      rw [e] at ho
      clear e
      have YES : Hid (kindB s.data.toList fs[k] = true → kindsB s.data.toList (fs.drop (k + 1)) = kindsB s.data.toList fs) := fun h => by rw [h, Bool.true_and] at ho; exact ho
      have NO : Hid (kindB s.data.toList fs[k] = false → R (.returned (.bool false)) w) := fun h => by rw [h, Bool.false_and] at ho; have := HR.out; rw [← ho] at this; exact this
      have KB : kindB s.data.toList fs[k] = match s.data.toList[fs[k].num.toNat]? with | some 118 => decide (fs[k].kind = 0) | some 98 => decide (fs[k].kind = 2) | _ => true := rfl
      clear ho HR
      generalize kindB s.data.toList fs[k] = kb at *
      generalize fs[k].num = xn at *
      generalize fs[k].kind = xk at *
      obtain ⟨m, rfl⟩ : ∃ m : Nat, xn = m := ⟨xn.toNat, by omega⟩
      rw [Int.toNat_natCast] at KB
      by_cases hm : m < s.size
      · have e : s.data.toList[m]? = some s[m] := by
          rw [List.getElem?_eq_getElem (by simpa using hm)]
          rfl
        rw [e] at KB
        clear e
        have KB : kb = if s[m].toNat = 118 then decide (xk = 0) else if s[m].toNat = 98 then decide (xk = 2) else true := by
          rw [KB]
          have hz : ∀ c : UInt8, (match some c with | some 118 => decide (xk = 0) | some 98 => decide (xk = 2) | _ => true) = if c.toNat = 118 then decide (xk = 0) else if c.toNat = 98 then decide (xk = 2) else true := by
            intro c
            by_cases h1 : c = 118
            · subst h1; rfl
            · by_cases h2 : c = 98
              · subst h2; rfl
              · rw [if_neg (show ¬ c.toNat = 118 from fun h => h1 (UInt8.toNat_inj.1 h)), if_neg (show ¬ c.toNat = 98 from fun h => h2 (UInt8.toNat_inj.1 h))]
                split
                · rename_i h; injection h with h; exact absurd h h1
                · rename_i h; injection h with h; exact absurd h h2
                · rfl
          exact hz s[m]
        have KB := Lib.hid KB
        by_cases c1 : s[m].toNat = 118
        · have u1 : ((s[m].toNat : Int) == 118) = true := by simp [c1]
          have u2 : ((s[m].toNat : Int) == 98) = false := by simp [c1]
          by_cases hk0 : xk = 0
          · have t2 : (xk != 0) = false := by simp [hk0]
            have OK := Lib.hid (YES.out (by rw [KB.out]; simp [c1, hk0]))
            clear KB NO YES c1 hk0
            go_wp2
            go_round
            case rel => exact ⟨k + 1, by omega, by go_num, OK.out⟩
            case measure => simp [intOf]; omega
          · have t2 : (xk != 0) = true := by simp [hk0]
            have FIN := Lib.hid (NO.out (by rw [KB.out]; simp [c1, hk0]))
            clear KB NO YES c1 hk0
            go_wp2
            exact FIN.out
        · have u1 : ((s[m].toNat : Int) == 118) = false := by simp; omega
          by_cases c2 : s[m].toNat = 98
          · have u2 : ((s[m].toNat : Int) == 98) = true := by simp [c2]
            by_cases hk0 : xk = 2
            · have t2 : (xk != 2) = false := by simp [hk0]
              have OK := Lib.hid (YES.out (by rw [KB.out]; simp [c2, hk0]))
              clear KB NO YES c1 c2 hk0
              go_wp2
              go_round
              case rel => exact ⟨k + 1, by omega, by go_num, OK.out⟩
              case measure => simp [intOf]; omega
            · have t2 : (xk != 2) = true := by simp [hk0]
              have FIN := Lib.hid (NO.out (by rw [KB.out]; simp [c2, hk0]))
              clear KB NO YES c1 c2 hk0
              go_wp2
              exact FIN.out
          · have u2 : ((s[m].toNat : Int) == 98) = false := by simp; omega
            have OK := Lib.hid (YES.out (by rw [KB.out]; simp [c1, c2]))
            clear KB NO YES c1 c2
            go_wp2
            go_round
            case rel => exact ⟨k + 1, by omega, by go_num, OK.out⟩
            case measure => simp [intOf]; omega
      · have OK := Lib.hid (YES.out (by rw [KB, List.getElem?_eq_none (by simpa using hm)]))
        clear KB NO YES
        go_wp2
        go_round
        case rel => exact ⟨k + 1, by omega, by go_num, OK.out⟩
        case measure => simp [intOf]; omega
    · obtain rfl : k = fs.length := by omega
      have ho := ho.out
      rw [List.drop_length] at ho
      have FIN := Lib.hid HR.out
      rw [← ho] at FIN
      clear HR ho
      go_wp2
      exact FIN.out
theorem kinds_all {fs : List Fld} {p : Fld → Bool} (q : Fld → Bool) (h : ∀ f ∈ fs, p f = q f) : fs.all p = fs.all q := by
  induction fs with
  | nil => rfl
  | cons f l ih => rw [List.all_cons, List.all_cons, h f (by simp), ih fun g hg => h g (by simp [hg])]
theorem all_both {p q : Fld → Bool} : ∀ fs : List Fld, (fs.all p && fs.all q) = fs.all fun f => p f && q f
  | [] => rfl
  | f :: l => by
    rw [List.all_cons, List.all_cons, List.all_cons, ← all_both l]
    cases p f <;> cases q f <;> cases l.all p <;> cases l.all q <;> rfl
theorem kindF_all (fs : List Fld) (n k : Int) : kindF (fs.map Fld.fd) n k = fs.all fun f => !decide (f.num = n) || decide (f.kind = k) := by
  unfold kindF
  rw [List.all_map]
  rfl
theorem kinds_F {fs : List Fld} (hp : ∀ f ∈ fs, 0 ≤ f.num) : kindsB [32, 118, 98, 118, 98] fs = (kindF (fs.map Fld.fd) 1 0 && kindF (fs.map Fld.fd) 2 2 && kindF (fs.map Fld.fd) 3 0 && kindF (fs.map Fld.fd) 4 2) := by
  simp only [kindF_all, all_both]
  unfold kindsB
  refine kinds_all _ fun f hf => ?_
  have h := hp f hf
  unfold kindB
  obtain ⟨n, hn⟩ : ∃ n : Nat, f.num = n := ⟨f.num.toNat, by omega⟩
  rw [hn, Int.toNat_natCast]
  rcases n with _ | _ | _ | _ | _ | n
  all_goals first | (simp; done) | (simp; omega)
theorem kinds_L {fs : List Fld} (hp : ∀ f ∈ fs, 0 ≤ f.num) : kindsB [32, 98, 98, 98, 98, 118, 32, 32, 32, 32, 32, 32, 32, 32, 32, 118] fs = (kindF (fs.map Fld.fd) 1 2 && kindF (fs.map Fld.fd) 2 2 && kindF (fs.map Fld.fd) 3 2 && kindF (fs.map Fld.fd) 4 2 && kindF (fs.map Fld.fd) 5 0 && kindF (fs.map Fld.fd) 15 0) := by
  simp only [kindF_all, all_both]
  unfold kindsB
  refine kinds_all _ fun f hf => ?_
  have h := hp f hf
  unfold kindB
  obtain ⟨n, hn⟩ : ∃ n : Nat, f.num = n := ⟨f.num.toNat, by omega⟩
  rw [hn, Int.toNat_natCast]
  rcases n with _ | _ | _ | _ | _ | _ | _ | _ | _ | _ | _ | _ | _ | _ | _ | _ | n
  all_goals first | (simp; done) | (simp; omega)
end Go.Proofs.YtfdjdfobhkmlpaaDoor

namespace Go.Proofs.YtfdjdfobhkmlpaaDoor
open Go.RowKit B

/-- where the fields of a feature stand, as far as n -/
def atC (fs : List Fld) (n : Nat) : Array Value := #[.int .i64 0, .int .i64 (if 1 < n then oneF fs 1 else 0), .int .i64 (if 2 < n then oneF fs 2 else 0), .int .i64 (if 3 < n then oneF fs 3 else 0), .int .i64 (if 4 < n then oneF fs 4 else 0)]
def atOk (fs : List Fld) (n : Nat) : Prop := ∀ m : Nat, 1 ≤ m → m < n → oneF fs m ≠ -2
theorem get_len5 {b : List UInt8} (hb : b.length ≤ 100000) (h : (get b).2 = 0) : 2 * (get b).1.length ≤ b.length := by
  obtain ⟨h1, -, h2⟩ := put_get (b := b) (by omega) (l := (get b).1) (by rw [← h])
  obtain ⟨h3, h4⟩ := fdput_all _ h2
  omega
theorem mk5 (w : World) : (Instr.makeSlice 163 (.int .i64 5) (.int .i64 5)).run Tryd.prog w = .ok (.slice (some ⟨w.heap.size, 0, none⟩) 5 5) (w.alloc (.cells #[.int .i64 0, .int .i64 0, .int .i64 0, .int .i64 0, .int .i64 0] 3)) := by kernel_rfl
theorem Flds.tn {D S : Nat → Prop} {w w' : World} {v : Value} {fs : List Fld} (h : Flds w S v fs) (ht : Tn D w w') (hS : ∀ b, S b → ¬ D b) : Flds w' S v fs :=
  ⟨Tn.rd h.1 (by decide) ht hS, fun f hf => ⟨(h.2 f hf).1, (h.2 f hf).2.1, (h.2 f hf).2.2.1, Tn.rd (h.2 f hf).2.2.2 (by decide) ht hS⟩⟩
theorem Flds.low {S : Nat → Prop} {w : World} {v : Value} {fs : List Fld} (h : Flds w S v fs) : Flds w (· < w.heap.size) v fs :=
  ⟨h.1.lt (by decide), fun f hf => ⟨(h.2 f hf).1, (h.2 f hf).2.1, (h.2 f hf).2.2.1, (h.2 f hf).2.2.2.lt (by decide)⟩⟩
theorem atC_set (fs : List Fld) (n : Nat) (h1 : 1 ≤ n) (h2 : n < 5) : (atC fs n).setIfInBounds n (.int .i64 (oneF fs n)) = atC fs (n + 1) := by
  have : n = 1 ∨ n = 2 ∨ n = 3 ∨ n = 4 := by omega
  rcases this with rfl | rfl | rfl | rfl <;> simp [atC]
theorem one_two {fs : List Fld} {n : Int} (h : oneF fs n = -2) : 2 ≤ (numF (fs.map Fld.fd) n).length := by
  rcases oneF_is fs n with ⟨_, e⟩ | ⟨j, _, _, _, e⟩ | ⟨h, _⟩
  · omega
  · omega
  · exact h
theorem pickR {fs : List Fld} {l : List FD} (hfs : fs.map Fld.fd = l) {m : Int} (h1 : 1 ≤ m) (h2 : m < 5) (h : atOk fs 5) : (numF l m = [] ∧ oneF fs m = -1) ∨ ∃ (j : Nat) (hj : j < fs.length), numF l m = [fs[j].fd] ∧ oneF fs m = (j : Int) := by
  subst hfs
  obtain ⟨n, rfl⟩ : ∃ n : Nat, m = n := ⟨m.toNat, by omega⟩
  rcases oneF_is fs n with h | ⟨j, hj, _, e1, e2⟩ | ⟨_, e⟩
  · exact .inl h
  · exact .inr ⟨j, hj, e1, e2⟩
  · exact absurd e (h n (by omega) (by omega))
theorem getF_r {K : List ByteArray} {V : List Val} {b : List UInt8} {tags geo : List Int} (h0 : (get b).2 = 0) (h1 : onceF (get b).1 = true) (h2 : unpack (dataF (get b).1 2) = (tags, 0)) (h4 : unpack (dataF (get b).1 4) = (geo, 0)) :
    getF K V b = match getAt K V tags with
      | none => .error 3
      | some at_ => match numF (get b).1 3 with
        | [] => .error 3
        | t :: _ => if t.int < 1 ∨ 3 < t.int then .error 3 else
          match decS t.int geo with
          | .error e => .error e
          | .ok ps => match numF (get b).1 1 with
            | [] => .ok (false, 0, t.int, ps, at_)
            | i :: _ => .ok (true, i.int, t.int, ps, at_) := by
  unfold getF
  rw [if_neg (by simp [h0]), if_neg (by simp [h1]), h2, h4]
  rfl
/-- a feature's attributes under way -/
structure FW (w5 : World) (p18 : Nat) (av : Value) (B : List Atr) (W : World) : Prop where
  tn : Tn (fun b => b = p18 ∨ w5.heap.size ≤ b) w5 W
  bx : W.heap[p18]? = some (.cells #[.bool false, .int .u64 0, .int .i64 0, .slice none 0 0, av] 53 (0, 0))
  ow : W.ownsRow w5.heap.size 56 4 av B.length (Atrs B)
theorem FW.gr {w5 W W' : World} {p18 : Nat} {av : Value} {B : List Atr} (h : FW w5 p18 av B W) (hg : Grow W W') : FW w5 p18 av B W' :=
  ⟨h.tn.tr (Tn.of hg) (E := fun _ => False) fun _ _ e => e.elim, (hg.block _ (lt_of_block h.bx)).trans h.bx, own_grow h.ow hg⟩
theorem FW.app {w5 W W' : World} {p18 : Nat} {av av' : Value} {B B' : List Atr} (h : FW w5 p18 av B W) (hg : W.grownBy W' av.ownBlock) (ho : W'.ownsRow w5.heap.size 56 4 av' B'.length (Atrs B')) : FW w5 p18 av' B' (W'.setCell ⟨p18, 4, none⟩ av') := by
  have t1 : Tn (fun j => av.ownBlock = some j) W W' := Tn.by_ hg fun _ e => e
  have b2 := t1.blk h.bx (own_ne_box h.ow h.bx (by decide))
  have ts := Tn_set W' p18 4 av'
  have hb2 := blk_set b2 4 av'
  exact ⟨(h.tn.tr t1 fun j _ e => .inr (own_ge h.ow j e)).tr ts fun j _ e => .inl e, by simpa using hb2, Tn.own ho ts fun k e e2 => own_ne_box ho b2 (by decide) (e2 ▸ e)⟩
theorem unp_ok {d : List UInt8} {l : List Int} {e : Int} (h : unpack d = (l, e)) : (∀ x ∈ l, 0 ≤ x ∧ x ≤ 4294967295) ∧ l.length ≤ d.length := by
  have := unpack_len d
  rw [h] at this
  exact ⟨this.2, this.1⟩
theorem BoxH.mk' {w0 W : World} {bb : Nat} {cs : Array Value} {t : TypeId} (h1 : Grow w0 W) (h2 : w0.heap.size ≤ bb) (h3 : W.heap[bb]? = some (.cells cs t (0, 0))) : BoxH w0 bb cs t W := ⟨h1, h2, h3⟩
/-- what stands still while a feature's own fields are laid -/
structure FX (w w5 : World) (p6 p18 ab : Nat) (fs : List Fld) (lv gv av : Value) (geo : List Int) (B : List Atr) (cs : Array Value) (W : World) : Prop where
  o1 : p6 < p18
  o2 : ab < p18
  o3 : p18 < w5.heap.size
  o4 : w5.heap.size ≤ W.heap.size
  bf : BoxH w p6 #[.bool false, .int .u64 0, .int .i64 0, .slice none 0 0, .slice none 0 0] 53 W
  bx : BoxH w p18 cs 53 W
  at_ : W.heap[ab]? = some (.cells (atC fs 5) 3 (0, 0))
  fl : Flds W (· < ab) lv fs
  gv : Rd W (· < p18) 1 gv geo.length (U32 geo)
  av : Rd W (fun b => w5.heap.size ≤ b) 4 av B.length (Atrs B)
section
variable {w w5 W W' : World} {p6 p18 ab : Nat} {fs : List Fld} {lv gv av : Value} {geo : List Int} {B : List Atr} {cs : Array Value}
theorem FX.gr (h : FX w w5 p6 p18 ab fs lv gv av geo B cs W) (hg : Grow W W') : FX w w5 p6 p18 ab fs lv gv av geo B cs W' :=
  ⟨h.o1, h.o2, h.o3, Nat.le_trans h.o4 hg.size, h.bf.tr hg, h.bx.tr hg, (hg.block _ (lt_of_block h.at_)).trans h.at_, h.fl.gr hg, h.gv.gr2 (by decide) hg, h.av.gr2 (by decide) hg⟩
theorem FX.set (h : FX w w5 p6 p18 ab fs lv gv av geo B cs W) (j : Nat) (v : Value) : FX w w5 p6 p18 ab fs lv gv av geo B (cs.setIfInBounds j v) (W.setCell ⟨p18, j, none⟩ v) := by
  have ts := Tn_set W p18 j v
  have o1 := h.o1
  have o2 := h.o2
  have o3 := h.o3
  exact ⟨h.o1, h.o2, h.o3, by rw [size_setCell]; exact h.o4, h.bf.other (by omega) h.bx.2.1, h.bx.set j v, ts.blk h.at_ (by omega), h.fl.tn ts fun b hb e => by omega, Tn.rd h.gv (by decide) ts fun b hb e => by omega, Tn.rd h.av (by decide) ts fun b hb e => by omega⟩
theorem FX.at3 (h : FX w w5 p6 p18 ab fs lv gv av geo B cs W) : W.cell? ⟨ab, 3, none⟩ = some (.int .i64 (oneF fs 3)) := (cell_of_row W ab 3 _ _ _ h.at_).trans (by simp [atC])
theorem FX.at1 (h : FX w w5 p6 p18 ab fs lv gv av geo B cs W) : W.cell? ⟨ab, 1, none⟩ = some (.int .i64 (oneF fs 1)) := (cell_of_row W ab 1 _ _ _ h.at_).trans (by simp [atC])
end
theorem fld_blk {w : World} {S : Nat → Prop} {b o c : Nat} {fs : List Fld} (h : Flds w S (.slice (some ⟨b, o, none⟩) fs.length c) fs) (hn : 0 < fs.length) : S b := by
  obtain ⟨_, A, c', e, _, _, _, k⟩ := h.1
  obtain ⟨b', o', e', hb, _⟩ := k hn
  injection e with e _ _
  subst e
  injection e' with e'
  injection e' with e1 _
  exact e1 ▸ hb
theorem Tn_blk {D : Nat → Prop} {w w' : World} {b : Nat} (h : Tn D w w') (hb : b < w.heap.size) (hd : ¬ D b) : w'.heap[b]? = w.heap[b]? := h.block b hb hd
theorem blk_cell {w w' : World} {b : Nat} (h : w'.heap[b]? = w.heap[b]?) (o : Nat) : w'.cell? ⟨b, o, none⟩ = w.cell? ⟨b, o, none⟩ := by
  simp only [World.cell?, h]
theorem getF_once {K : List ByteArray} {V : List Val} {b : List UInt8} (h0 : (get b).2 = 0) (h : onceF (get b).1 = false) : getF K V b = .error 3 := by
  unfold getF
  rw [if_neg (by simp [h0]), if_pos h]
theorem once_two {l : List FD} {n : Nat} (h1 : 1 ≤ n) (h2 : n < 5) (h : 2 ≤ (numF l n).length) : onceF l = false := by
  have e : ([(1 : Int), 2, 3, 4].all fun n => decide ((numF l n).length ≤ 1)) = false := by
    rw [List.all_eq_false]
    refine ⟨(n : Int), ?_, by simp; omega⟩
    have : n = 1 ∨ n = 2 ∨ n = 3 ∨ n = 4 := by omega
    rcases this with rfl | rfl | rfl | rfl <;> simp
  unfold onceF
  rw [e]
  rfl

set_option maxRecDepth 100000 in
set_option maxHeartbeats 6000000 in
theorem rfeature_any (Ks : List ByteArray) (V : List Val) (b : List UInt8) (kv vv bv : Value) (S1 S2 S3 : Nat → Prop) (w : World) (hK : Rd w S1 1 kv Ks.length (strs Ks)) (hV : Rd w S2 3 vv V.length (Vals V)) (hb : Rd w S3 1 bv b.length (U8 b)) (hB : FtB b)
    (hp : ∀ v ∈ V, plainV v = v) (okK : ∀ k ∈ Ks, k.size ≤ maxLen) (okV : ∀ v ∈ V, I64 v.k ∧ U64 v.b ∧ v.t.size ≤ maxLen) {R : Ending → World → Prop}
    (h0 : ∀ e, getF Ks V b = .error e → ∀ w', Grow w w' → R (.returned (.tuple #[.agg #[.bool false, .int .u64 0, .int .i64 0, .slice none 0 0, .slice none 0 0], .int .i64 e])) w')
    (h1 : ∀ (x : FtR) w', getF Ks V b = .ok x.pl → x.rd w' (fun b => w.heap.size ≤ b) → x.ok → Grow w w' → R (.returned (.tuple #[.agg x.cells.toArray, .int .i64 0])) w') :
    Calls Tryd.prog 81 #[bv, kv, vv] w R := by
  have NO := Lib.hid h0
  have YS := Lib.hid h1
  have OV : Hid (∀ B : List Atr, (∀ a ∈ B, a.key ∈ Ks ∧ a.val ∈ V) → ∀ a ∈ B, a.ok) := fun B h a ha => ⟨okK _ (h a ha).1, okV _ (h a ha).2⟩
  have HPV := Lib.hid hp
  have HBB := Lib.hid hB
  have GE := Lib.hid fun W (hg : Grow w W) (R : Ending → World → Prop) hR => rget_any b bv _ W (hb.gr2 (by decide) hg) (by have := hB.len; omega) (R := R) hR
  have hK := hK.lt (by decide)
  have hV := hV.lt (by decide)
  have HK := Lib.hid hK
  have HV := Lib.hid hV
  obtain ⟨_, K1, K3, rfl, k1, k2, k3, k4⟩ := hK
  obtain ⟨_, V1, V3, rfl, v1, v2, v3, v4⟩ := hV
  unfold maxLen at k2 v2
  obtain ⟨B1, B2, B3, hbv⟩ := hb.form
  subst hbv
  clear h0 h1 hB hp okK okV hb
  have BF := Lib.hid (BoxH.laid #[.bool false, .int .u64 0, .int .i64 0, .slice none 0 0, .slice none 0 0] 53 (Grow.refl w))
  have G0 := Lib.hid BF.out.grow
  go_enter Tryd.func81, Tryd.ntmps81
  go_wp2_with fail
  generalize w.alloc (.cells #[.bool false, .int .u64 0, .int .i64 0, .slice none 0 0, .slice none 0 0] 53) = wa at *
  obtain ⟨p6, hp6⟩ : ∃ p, w.heap.size = p := ⟨_, rfl⟩
  rw [hp6] at BF
  rw [hp6]
  have P6 : Hid (w.heap.size ≤ p6) := by show _ ≤ _; omega
  clear hp6
  go_at_call 45
  refine GE.out _ G0.out _ ?_
  intro r fs w1 hO hF hfs hg1
  have BF := Lib.hid (BF.out.tr hg1)
  have FL : Hid (Flds w1 (fun _ => True) r fs) := ⟨(Rd.own hO).into fun _ _ => trivial, fun f hf => ⟨(hF f hf).1, (hF f hf).2.1, (hF f hf).2.2.1, (hF f hf).2.2.2.into fun _ _ => trivial⟩⟩
  have HFS := Lib.hid hfs
  obtain ⟨F1, F2, rfl⟩ := own_slice hO
  clear hg1 hO hF hfs G0 GE
  by_cases he : (get b).2 = 0
  · have t1 : ((get b).2 != 0) = false := by simp [he]
    have PN : Hid (∀ f ∈ fs, 0 ≤ f.num) := fun f hf => by
      have := ((get_all5 HBB.out.len he) f.fd (by rw [← HFS.out]; exact List.mem_map.2 ⟨f, hf, rfl⟩)).1.num.1
      show 0 ≤ f.fd.num
      omega
    have CN : fs.length ≤ 1000000 := by
      have h := get_len5 HBB.out.len he
      have h2 := HBB.out.len
      rw [← HFS.out, List.length_map] at h
      omega
    have HE := Lib.hid he
    clear he
    have hmk := mk5
    have NE : Hid (p6 ≠ w1.heap.size) := Nat.ne_of_lt BF.out.lt
    have AT : Hid (BoxH w w1.heap.size (atC fs 1) 3 (w1.alloc (.cells #[.int .i64 0, .int .i64 0, .int .i64 0, .int .i64 0, .int .i64 0] 3))) := BoxH.laid _ _ BF.out.grow
    have BF := Lib.hid (BF.out.tr ((Grow.refl w1).al (.cells #[.int .i64 0, .int .i64 0, .int .i64 0, .int .i64 0, .int .i64 0] 3)))
    have FL := Lib.hid (FL.out.low.gr ((Grow.refl w1).al (.cells #[.int .i64 0, .int .i64 0, .int .i64 0, .int .i64 0, .int .i64 0] 3)))
    go_wp2_with fail
    generalize w1.alloc (.cells #[.int .i64 0, .int .i64 0, .int .i64 0, .int .i64 0, .int .i64 0] 3) = wb at *
    generalize w1.heap.size = ab at *
    go_loopw [11] (fun i wr => ∃ n : Nat, 1 ≤ n ∧ n ≤ 5 ∧ i = .int .i64 n ∧ Hid (BoxH w ab (atC fs n) 3 wr) ∧ Hid (atOk fs n) ∧ Hid (BoxH w p6 #[.bool false, .int .u64 0, .int .i64 0, .slice none 0 0, .slice none 0 0] 53 wr) ∧ Hid (Flds wr (· < ab) (.slice F1 fs.length F2) fs)) (fun i _ => 5 - (intOf i).toNat)
    case atStart => exact ⟨1, by omega, by omega, rfl, AT.out, fun m h1 h2 => by omega, BF.out, FL.out⟩
    case round =>
      clear AT BF FL
      obtain ⟨n, n1, n5, rfl, AT, AO, BF, FL⟩ := hrel
      by_cases hlt : n < 5
      · have OA := Lib.hid fun R => one_any fs (.slice F1 fs.length F2) n _ wr FL.out CN (R := R)
        have YES : Hid (oneF fs n ≠ -2 → atOk fs (n + 1)) := fun h m h1 h2 => by
          by_cases hm : m = n
          · rw [hm]; exact h
          · exact AO.out m h1 (by omega)
        have FINN : Hid (oneF fs n = -2 → ∀ w', Grow w w' → R (.returned (.tuple #[.agg #[.bool false, .int .u64 0, .int .i64 0, .slice none 0 0, .slice none 0 0], .int .i64 3])) w') := fun h => NO.out 3 (getF_once HE.out (once_two n1 hlt (by rw [← HFS.out]; exact one_two h)))
        have AT2 := Lib.hid (AT.out.set n (.int .i64 (oneF fs n)))
        have BF2 := Lib.hid (BF.out.other (j := n) (v := .int .i64 (oneF fs n)) NE.out AT.out.2.1)
        have FL2 := Lib.hid (FL.out.tn (Tn_set wr ab n (.int .i64 (oneF fs n))) fun b hb e => by omega)
        rw [atC_set fs n n1 hlt] at AT2
        clear BF FL AO
        have hn : n = 1 ∨ n = 2 ∨ n = 3 ∨ n = 4 := by omega
        rcases hn with rfl | rfl | rfl | rfl
        · have y : wr.cell? ⟨ab, 1, none⟩ = some (.int .i64 0) := (AT.out.cell 1).trans (by simp [atC])
          have f := AT.out.free 1
          have z : (wr.setCell ⟨ab, 1, none⟩ (.int .i64 (oneF fs (1 : Nat)))).cell? ⟨ab, 1, none⟩ = some (.int .i64 (oneF fs (1 : Nat))) := (AT2.out.cell 1).trans (by simp [atC])
          clear AT
          go_wp2_with fail
          go_at_call 78
          refine OA.out _ ?_
          generalize oneF fs (1 : Nat) = v at *
          by_cases hv : v = -2
          · subst hv
            have FIN := Lib.hid (FINN.out rfl)
            have BF := BF2
            clear BF2 AT2 OA YES NO YS OV HBB HFS HK HV k4 v4 FL2
            -- BF : the box of the feature at the world of the goal; FIN : the error
            have BZ := Lib.hid (BF.out.row (cs' := #[.bool false, .int .u64 0, .int .i64 0, .slice none 0 0, .slice none 0 0]))
            go_upto_region 10 with fail
            repeat (first | ((with_reducible refine at_st ?_); refine wpList_store_row rfl 53 _ _ rfl p6 #[.bool false, .int .u64 0, .int .i64 0, .slice none 0 0, .slice none 0 0] rfl rfl 53 _ BF.out.2.2 (by kernel_rfl) rfl (by simp [Value.oneCell']) ?_) | ((with_reducible refine at_ld ?_); refine wpList_load_row rfl 53 _ rfl p18 rfl 53 _ (0, 0) _ BX.out.2.2 Tryd.underlying53 rfl (by kernel_rfl) ?_) | go_values | go_skip | go_guarded | go_step | go_upon)
            refine bodyPost_ret (results_ct rfl _ _ p6 _ _ (0, 0) _ rfl BZ.out.2.2 rfl rfl Tryd.underlying53 (by kernel_rfl)) rfl ?_
            exact FIN.out _ BZ.out.grow
          · have t2 : (v == -2) = false := by simp [hv]
            have AO := Lib.hid (YES.out hv)
            clear YES FINN OA NO YS
            go_wp2
            go_roundw
            case rel => exact ⟨1 + 1, by omega, by omega, rfl, AT2.out, AO.out, BF2.out, FL2.out⟩
            case measure => simp [intOf]
        · have y : wr.cell? ⟨ab, 2, none⟩ = some (.int .i64 0) := (AT.out.cell 2).trans (by simp [atC])
          have f := AT.out.free 2
          have z : (wr.setCell ⟨ab, 2, none⟩ (.int .i64 (oneF fs (2 : Nat)))).cell? ⟨ab, 2, none⟩ = some (.int .i64 (oneF fs (2 : Nat))) := (AT2.out.cell 2).trans (by simp [atC])
          clear AT
          go_wp2_with fail
          go_at_call 78
          refine OA.out _ ?_
          generalize oneF fs (2 : Nat) = v at *
          by_cases hv : v = -2
          · subst hv
            have FIN := Lib.hid (FINN.out rfl)
            have BF := BF2
            clear BF2 AT2 OA YES NO YS OV HBB HFS HK HV k4 v4 FL2
            -- BF : the box of the feature at the world of the goal; FIN : the error
            have BZ := Lib.hid (BF.out.row (cs' := #[.bool false, .int .u64 0, .int .i64 0, .slice none 0 0, .slice none 0 0]))
            go_upto_region 10 with fail
            repeat (first | ((with_reducible refine at_st ?_); refine wpList_store_row rfl 53 _ _ rfl p6 #[.bool false, .int .u64 0, .int .i64 0, .slice none 0 0, .slice none 0 0] rfl rfl 53 _ BF.out.2.2 (by kernel_rfl) rfl (by simp [Value.oneCell']) ?_) | ((with_reducible refine at_ld ?_); refine wpList_load_row rfl 53 _ rfl p18 rfl 53 _ (0, 0) _ BX.out.2.2 Tryd.underlying53 rfl (by kernel_rfl) ?_) | go_values | go_skip | go_guarded | go_step | go_upon)
            refine bodyPost_ret (results_ct rfl _ _ p6 _ _ (0, 0) _ rfl BZ.out.2.2 rfl rfl Tryd.underlying53 (by kernel_rfl)) rfl ?_
            exact FIN.out _ BZ.out.grow
          · have t2 : (v == -2) = false := by simp [hv]
            have AO := Lib.hid (YES.out hv)
            clear YES FINN OA NO YS
            go_wp2
            go_roundw
            case rel => exact ⟨2 + 1, by omega, by omega, rfl, AT2.out, AO.out, BF2.out, FL2.out⟩
            case measure => simp [intOf]
        · have y : wr.cell? ⟨ab, 3, none⟩ = some (.int .i64 0) := (AT.out.cell 3).trans (by simp [atC])
          have f := AT.out.free 3
          have z : (wr.setCell ⟨ab, 3, none⟩ (.int .i64 (oneF fs (3 : Nat)))).cell? ⟨ab, 3, none⟩ = some (.int .i64 (oneF fs (3 : Nat))) := (AT2.out.cell 3).trans (by simp [atC])
          clear AT
          go_wp2_with fail
          go_at_call 78
          refine OA.out _ ?_
          generalize oneF fs (3 : Nat) = v at *
          by_cases hv : v = -2
          · subst hv
            have FIN := Lib.hid (FINN.out rfl)
            have BF := BF2
            clear BF2 AT2 OA YES NO YS OV HBB HFS HK HV k4 v4 FL2
            -- BF : the box of the feature at the world of the goal; FIN : the error
            have BZ := Lib.hid (BF.out.row (cs' := #[.bool false, .int .u64 0, .int .i64 0, .slice none 0 0, .slice none 0 0]))
            go_upto_region 10 with fail
            repeat (first | ((with_reducible refine at_st ?_); refine wpList_store_row rfl 53 _ _ rfl p6 #[.bool false, .int .u64 0, .int .i64 0, .slice none 0 0, .slice none 0 0] rfl rfl 53 _ BF.out.2.2 (by kernel_rfl) rfl (by simp [Value.oneCell']) ?_) | ((with_reducible refine at_ld ?_); refine wpList_load_row rfl 53 _ rfl p18 rfl 53 _ (0, 0) _ BX.out.2.2 Tryd.underlying53 rfl (by kernel_rfl) ?_) | go_values | go_skip | go_guarded | go_step | go_upon)
            refine bodyPost_ret (results_ct rfl _ _ p6 _ _ (0, 0) _ rfl BZ.out.2.2 rfl rfl Tryd.underlying53 (by kernel_rfl)) rfl ?_
            exact FIN.out _ BZ.out.grow
          · have t2 : (v == -2) = false := by simp [hv]
            have AO := Lib.hid (YES.out hv)
            clear YES FINN OA NO YS
            go_wp2
            go_roundw
            case rel => exact ⟨3 + 1, by omega, by omega, rfl, AT2.out, AO.out, BF2.out, FL2.out⟩
            case measure => simp [intOf]
        · have y : wr.cell? ⟨ab, 4, none⟩ = some (.int .i64 0) := (AT.out.cell 4).trans (by simp [atC])
          have f := AT.out.free 4
          have z : (wr.setCell ⟨ab, 4, none⟩ (.int .i64 (oneF fs (4 : Nat)))).cell? ⟨ab, 4, none⟩ = some (.int .i64 (oneF fs (4 : Nat))) := (AT2.out.cell 4).trans (by simp [atC])
          clear AT
          go_wp2_with fail
          go_at_call 78
          refine OA.out _ ?_
          generalize oneF fs (4 : Nat) = v at *
          by_cases hv : v = -2
          · subst hv
            have FIN := Lib.hid (FINN.out rfl)
            have BF := BF2
            clear BF2 AT2 OA YES NO YS OV HBB HFS HK HV k4 v4 FL2
            -- BF : the box of the feature at the world of the goal; FIN : the error
            have BZ := Lib.hid (BF.out.row (cs' := #[.bool false, .int .u64 0, .int .i64 0, .slice none 0 0, .slice none 0 0]))
            go_upto_region 10 with fail
            repeat (first | ((with_reducible refine at_st ?_); refine wpList_store_row rfl 53 _ _ rfl p6 #[.bool false, .int .u64 0, .int .i64 0, .slice none 0 0, .slice none 0 0] rfl rfl 53 _ BF.out.2.2 (by kernel_rfl) rfl (by simp [Value.oneCell']) ?_) | ((with_reducible refine at_ld ?_); refine wpList_load_row rfl 53 _ rfl p18 rfl 53 _ (0, 0) _ BX.out.2.2 Tryd.underlying53 rfl (by kernel_rfl) ?_) | go_values | go_skip | go_guarded | go_step | go_upon)
            refine bodyPost_ret (results_ct rfl _ _ p6 _ _ (0, 0) _ rfl BZ.out.2.2 rfl rfl Tryd.underlying53 (by kernel_rfl)) rfl ?_
            exact FIN.out _ BZ.out.grow
          · have t2 : (v == -2) = false := by simp [hv]
            have AO := Lib.hid (YES.out hv)
            clear YES FINN OA NO YS
            go_wp2
            go_roundw
            case rel => exact ⟨4 + 1, by omega, by omega, rfl, AT2.out, AO.out, BF2.out, FL2.out⟩
            case measure => simp [intOf]
      · obtain rfl : n = 5 := by omega
        have KO : onceF (get b).1 = kindsB [32, 118, 98, 118, 98] fs := by
          rw [kinds_F PN.out, HFS.out]
          have c : ∀ m : Nat, 1 ≤ m → m < 5 → (numF (get b).1 m).length ≤ 1 := fun m h1 h2 => by
            rw [← HFS.out]
            rcases oneF_is fs m with ⟨e, _⟩ | ⟨j, _, _, e, _⟩ | ⟨_, e⟩
            · rw [e]; simp
            · rw [e]; simp
            · exact absurd e (AO.out m h1 h2)
          have e : ([(1 : Int), 2, 3, 4].all fun n => decide ((numF (get b).1 n).length ≤ 1)) = true := by
            have c1 := c 1 (by omega) (by omega)
            have c2 := c 2 (by omega) (by omega)
            have c3 := c 3 (by omega) (by omega)
            have c4 := c 4 (by omega) (by omega)
            simp only [List.all_cons, List.all_nil, Bool.and_true, Bool.and_eq_true, decide_eq_true_eq]
            exact ⟨c1, c2, c3, c4⟩
          unfold onceF
          rw [e, Bool.true_and]
        have KA := Lib.hid fun R => kinds_any fs (.slice F1 fs.length F2) ⟨#[32, 118, 98, 118, 98]⟩ _ wr FL.out CN PN.out (R := R)
        have eK : (⟨#[32, 118, 98, 118, 98]⟩ : ByteArray).data.toList = [32, 118, 98, 118, 98] := rfl
        rw [eK] at KA
        clear eK
        generalize kindsB [32, 118, 98, 118, 98] fs = kb at *
        go_wp2_with fail
        go_at_call 79
        refine KA.out _ ?_
        cases kb with
        | false =>
          have FIN := Lib.hid (NO.out 3 (getF_once HE.out KO))
          clear NO YS OV HBB HFS HK HV k4 v4 FL KO KA AO AT
          -- BF : the box of the feature at the world of the goal; FIN : the error
          have BZ := Lib.hid (BF.out.row (cs' := #[.bool false, .int .u64 0, .int .i64 0, .slice none 0 0, .slice none 0 0]))
          go_upto_region 12 with fail
          repeat (first | ((with_reducible refine at_st ?_); refine wpList_store_row rfl 53 _ _ rfl p6 #[.bool false, .int .u64 0, .int .i64 0, .slice none 0 0, .slice none 0 0] rfl rfl 53 _ BF.out.2.2 (by kernel_rfl) rfl (by simp [Value.oneCell']) ?_) | ((with_reducible refine at_ld ?_); refine wpList_load_row rfl 53 _ rfl p18 rfl 53 _ (0, 0) _ BX.out.2.2 Tryd.underlying53 rfl (by kernel_rfl) ?_) | go_values | go_skip | go_guarded | go_step | go_upon)
          refine bodyPost_ret (results_ct rfl _ _ p6 _ _ (0, 0) _ rfl BZ.out.2.2 rfl rfl Tryd.underlying53 (by kernel_rfl)) rfl ?_
          exact FIN.out _ BZ.out.grow
        | true =>
          have HO := Lib.hid KO
          clear KO KA
          have y2 : wr.cell? ⟨ab, 2, none⟩ = some (.int .i64 (oneF fs 2)) := (AT.out.cell 2).trans (by simp [atC])
          have D2 : Hid ((dataF (get b).1 2).length ≤ 100000) := dataF_le HBB.out.dat
          have D4 : Hid ((dataF (get b).1 4).length ≤ 100000) := dataF_le HBB.out.dat
          have E2 : Hid ((unpack (dataF (get b).1 2)).2 ≠ 0 → getF Ks V b = .error (unpack (dataF (get b).1 2)).2) := fun h => by unfold getF; rw [if_neg (by simp [HE.out]), if_neg (by simp [HO.out]), if_pos h]
          have E4 : Hid ((unpack (dataF (get b).1 2)).2 = 0 → (unpack (dataF (get b).1 4)).2 ≠ 0 → getF Ks V b = .error (unpack (dataF (get b).1 4)).2) := fun h2 h => by unfold getF; rw [if_neg (by simp [HE.out]), if_neg (by simp [HO.out]), if_neg (by simp [h2]), if_pos h]
          go_upto_if 55 with fail
          go_cut [12, 14, 15] from 22 (fun v _ _ wx => Hid (∃ (tags : List Int) (S : Nat → Prop), Rd wx S 1 v tags.length (U32 tags) ∧ unpack (dataF (get b).1 2) = (tags, 0)) ∧ Hid (Grow wr wx))
          case first =>
            clear YS OV HK HV k4 v4 E4 D4
            rcases pickR HFS.out (m := 2) (by omega) (by omega) AO.out with ⟨e1, e2⟩ | ⟨j, hj, e1, e2⟩
            · have DN : Hid (unpack (dataF (get b).1 2) = ([], 0)) := by show _ = _; unfold dataF; rw [e1]; rfl
              rw [e2]
              go_wp2
              go_meet
              case rel => exact ⟨⟨[], fun _ => True, Rd.nil, DN.out⟩, Grow.refl _⟩
            · obtain ⟨b1, o1, rfl, -, -, -, d3⟩ := fld_cells FL.out hj
              have DD : dataF (get b).1 2 = fs[j].data := by unfold dataF; rw [e1]; rfl
              have RD := Lib.hid ((FL.out.2 fs[j] (List.getElem_mem hj)).2.2.2)
              rw [← DD] at RD
              rw [e2] at y2 ⊢
              clear e1 e2 DD
              generalize fs[j].dv = dv at *
              generalize dataF (get b).1 2 = data at *
              obtain ⟨X1, X2, X3, rfl⟩ := RD.out.form
              have UA := Lib.hid fun R => runpack_any data _ _ wr RD.out D2.out (R := R)
              go_wp2_with fail
              go_at_call 96
              refine UA.out _ ?_
              intro tv w3 hO3 hg3
              have G3 := Lib.hid hg3
              have BZ0 := Lib.hid (BF.out.tr hg3)
              obtain ⟨T1, T2, rfl⟩ := own_slice hO3
              have TG := Lib.hid (Rd.own hO3)
              clear hg3 hO3 UA
              obtain ⟨⟨tags, e2⟩, hu2⟩ : ∃ u, unpack data = u := ⟨_, rfl⟩
              rw [hu2] at TG E2 ⊢
              dsimp only at TG E2 ⊢
              have HU := Lib.hid hu2
              clear hu2
              by_cases h2 : e2 = 0
              · subst h2
                go_wp2
                go_meet
                case rel => exact ⟨⟨tags, _, TG.out, HU.out⟩, G3.out⟩
              · have FIN := Lib.hid (NO.out e2 (E2.out h2))
                have t2 : (e2 != 0) = true := by simp [h2]
                clear NO E2 h2 HU TG RD FL AT BF AO HBB HFS
                have BF := BZ0
                -- BF : the box of the feature at the world of the goal; FIN : the error
                have BZ := Lib.hid (BF.out.row (cs' := #[.bool false, .int .u64 0, .int .i64 0, .slice none 0 0, .slice none 0 0]))
                go_upto_region 17 with fail
                repeat (first | ((with_reducible refine at_st ?_); refine wpList_store_row rfl 53 _ _ rfl p6 #[.bool false, .int .u64 0, .int .i64 0, .slice none 0 0, .slice none 0 0] rfl rfl 53 _ BF.out.2.2 (by kernel_rfl) rfl (by simp [Value.oneCell']) ?_) | ((with_reducible refine at_ld ?_); refine wpList_load_row rfl 53 _ rfl p18 rfl 53 _ (0, 0) _ BX.out.2.2 Tryd.underlying53 rfl (by kernel_rfl) ?_) | go_values | go_skip | go_guarded | go_step | go_upon)
                refine bodyPost_ret (results_ct rfl _ _ p6 _ _ (0, 0) _ rfl BZ.out.2.2 rfl rfl Tryd.underlying53 (by kernel_rfl)) rfl ?_
                exact FIN.out _ BZ.out.grow
          case rest =>
            obtain ⟨ht, hg⟩ := hcut
            obtain ⟨tags, ST, ht1, ht2⟩ := ht.out
            have G2 := Lib.hid hg.out
            have TG := Lib.hid ht1
            have TU := Lib.hid ht2
            have AT4 := Lib.hid (AT.out.tr hg.out)
            have BF4 := Lib.hid (BF.out.tr hg.out)
            have FL4 := Lib.hid (FL.out.gr hg.out)
            have E5 : Hid ((unpack (dataF (get b).1 4)).2 ≠ 0 → getF Ks V b = .error (unpack (dataF (get b).1 4)).2) := fun h => E4.out (by rw [ht2]) h
            have y4 : wc.cell? ⟨ab, 4, none⟩ = some (.int .i64 (oneF fs 4)) := (AT4.out.cell 4).trans (by simp [atC])
            clear y2 AT BF FL E2 E4 D2 ht hg ht1 ht2
            generalize wc = wq at *
            go_upto_if 75 with fail
            go_cut [13, 16, 17] from 22 (fun v _ _ wx => Hid (∃ (tags : List Int) (S : Nat → Prop), Rd wx S 1 v tags.length (U32 tags) ∧ unpack (dataF (get b).1 4) = (tags, 0)) ∧ Hid (Grow wq wx))
            case first =>
              clear YS OV HK HV k4 v4 TG TU G2
              rcases pickR HFS.out (m := 4) (by omega) (by omega) AO.out with ⟨e1, e2⟩ | ⟨j, hj, e1, e2⟩
              · have DN : Hid (unpack (dataF (get b).1 4) = ([], 0)) := by show _ = _; unfold dataF; rw [e1]; rfl
                rw [e2]
                go_wp2
                go_meet
                case rel => exact ⟨⟨[], fun _ => True, Rd.nil, DN.out⟩, Grow.refl _⟩
              · obtain ⟨b1, o1, rfl, -, -, -, d3⟩ := fld_cells FL4.out hj
                have DD : dataF (get b).1 4 = fs[j].data := by unfold dataF; rw [e1]; rfl
                have RD := Lib.hid ((FL4.out.2 fs[j] (List.getElem_mem hj)).2.2.2)
                rw [← DD] at RD
                rw [e2] at y4 ⊢
                clear e1 e2 DD
                generalize fs[j].dv = dv at *
                generalize dataF (get b).1 4 = data at *
                obtain ⟨X1, X2, X3, rfl⟩ := RD.out.form
                have UA := Lib.hid fun R => runpack_any data _ _ wq RD.out D4.out (R := R)
                go_wp2_with fail
                go_at_call 96
                refine UA.out _ ?_
                intro tv w3 hO3 hg3
                have G3 := Lib.hid hg3
                have BZ0 := Lib.hid (BF4.out.tr hg3)
                obtain ⟨T1, T2, rfl⟩ := own_slice hO3
                have TG := Lib.hid (Rd.own hO3)
                clear hg3 hO3 UA
                obtain ⟨⟨tags, e2⟩, hu2⟩ : ∃ u, unpack data = u := ⟨_, rfl⟩
                rw [hu2] at TG E5 ⊢
                dsimp only at TG E5 ⊢
                have HU := Lib.hid hu2
                clear hu2
                by_cases h2 : e2 = 0
                · subst h2
                  go_wp2
                  go_meet
                  case rel => exact ⟨⟨tags, _, TG.out, HU.out⟩, G3.out⟩
                · have FIN := Lib.hid (NO.out e2 (E5.out h2))
                  have t2 : (e2 != 0) = true := by simp [h2]
                  clear NO E5 h2 HU TG RD FL4 AT4 BF4 AO HBB HFS
                  have BF := BZ0
                  -- BF : the box of the feature at the world of the goal; FIN : the error
                  have BZ := Lib.hid (BF.out.row (cs' := #[.bool false, .int .u64 0, .int .i64 0, .slice none 0 0, .slice none 0 0]))
                  go_upto_region 22 with fail
                  repeat (first | ((with_reducible refine at_st ?_); refine wpList_store_row rfl 53 _ _ rfl p6 #[.bool false, .int .u64 0, .int .i64 0, .slice none 0 0, .slice none 0 0] rfl rfl 53 _ BF.out.2.2 (by kernel_rfl) rfl (by simp [Value.oneCell']) ?_) | ((with_reducible refine at_ld ?_); refine wpList_load_row rfl 53 _ rfl p18 rfl 53 _ (0, 0) _ BX.out.2.2 Tryd.underlying53 rfl (by kernel_rfl) ?_) | go_values | go_skip | go_guarded | go_step | go_upon)
                  refine bodyPost_ret (results_ct rfl _ _ p6 _ _ (0, 0) _ rfl BZ.out.2.2 rfl rfl Tryd.underlying53 (by kernel_rfl)) rfl ?_
                  exact FIN.out _ BZ.out.grow
            case rest =>
              obtain ⟨ht5, hg5⟩ := hcut
              obtain ⟨geo, SG, hq1, hq2⟩ := ht5.out
              have GFE := Lib.hid (getF_r (K := Ks) (V := V) HE.out HO.out TU.out hq2)
              have GBD := Lib.hid (unp_ok hq2).1
              have GLN : Hid (geo.length ≤ 1000) := by have := HBB.out.geo; rw [hq2] at this; exact this
              have TBD := Lib.hid (unp_ok TU.out).1
              have TLN : tags.length ≤ 100000 := Nat.le_trans (unp_ok TU.out).2 (dataF_le HBB.out.dat)
              have AT6 := Lib.hid ((AT4.out.tr hg5.out).tr ((Grow.refl wc).al (.cells #[.bool false, .int .u64 0, .int .i64 0, .slice none 0 0, .slice none 0 0] 53)))
              have BF6 := Lib.hid ((BF4.out.tr hg5.out).tr ((Grow.refl wc).al (.cells #[.bool false, .int .u64 0, .int .i64 0, .slice none 0 0, .slice none 0 0] 53)))
              have FL6 := Lib.hid ((FL4.out.gr hg5.out).gr ((Grow.refl wc).al (.cells #[.bool false, .int .u64 0, .int .i64 0, .slice none 0 0, .slice none 0 0] 53)))
              have TG6 := Lib.hid (((TG.out.gr2 (by decide) hg5.out).lt (by decide)).gr2 (by decide) ((Grow.refl wc).al (.cells #[.bool false, .int .u64 0, .int .i64 0, .slice none 0 0, .slice none 0 0] 53)))
              have GV6 := Lib.hid ((hq1.lt (by decide)).gr2 (by decide) ((Grow.refl wc).al (.cells #[.bool false, .int .u64 0, .int .i64 0, .slice none 0 0, .slice none 0 0] 53)))
              have NE6 : Hid (ab < wc.heap.size ∧ p6 < wc.heap.size) := ⟨(AT4.out.tr hg5.out).lt, (BF4.out.tr hg5.out).lt⟩
              have FW0 : Hid (FW (wc.alloc (.cells #[.bool false, .int .u64 0, .int .i64 0, .slice none 0 0, .slice none 0 0] 53)) wc.heap.size (.slice none 0 0) [] (wc.alloc (.cells #[.bool false, .int .u64 0, .int .i64 0, .slice none 0 0, .slice none 0 0] 53))) := ⟨Tn.of (Grow.refl _), heap_alloc_new wc _, World.ownsRow_nil _ _ _ _⟩
              obtain ⟨T1, T2, T3, rfl⟩ := TG6.out.form
              obtain ⟨U1, U2, U3, rfl⟩ := GV6.out.form
              obtain rfl : T2 = tags.length := by obtain ⟨_, _, _, e, _⟩ := TG6.out; injection e
              clear AT4 BF4 FL4 TG E5 D4 y4 ht5 hg5 hq1 hq2 TU G2 HBB
              go_upto_region 25 with fail
              generalize wc.alloc (.cells #[.bool false, .int .u64 0, .int .i64 0, .slice none 0 0, .slice none 0 0] 53) = w5 at *
              generalize wc.heap.size = p18 at *
              by_cases hodd : tags.length % 2 = 1
              · have FIN := Lib.hid (NO.out 3 (by rw [GFE.out, getAt_odd hodd]))
                have BX : Hid (BoxH w p18 #[.bool false, .int .u64 0, .int .i64 0, .slice none 0 0, .slice none 0 0] 53 w5) := ⟨BF6.out.grow, Nat.le_trans BF6.out.2.1 (Nat.le_of_lt (by have := NE6.out; omega)), FW0.out.bx⟩
                have tt : ((Int.tmod (tags.length : Int) 2) == 1) = true := by rw [beq_iff_eq, show Int.tmod (tags.length : Int) 2 = ((tags.length % 2 : Nat) : Int) from rfl]; omega
                clear NO YS OV HFS HK HV k4 v4 GFE AT6 FL6 TG6 GV6 FW0
                have BF := BF6
                -- BF : the box of the feature at the world of the goal; FIN : the error
                have BZ := Lib.hid (BF.out.row (cs' := #[.bool false, .int .u64 0, .int .i64 0, .slice none 0 0, .slice none 0 0]))
                go_upto_region 26 with fail
                repeat (first | ((with_reducible refine at_st ?_); refine wpList_store_row rfl 53 _ _ rfl p6 #[.bool false, .int .u64 0, .int .i64 0, .slice none 0 0, .slice none 0 0] rfl rfl 53 _ BF.out.2.2 (by kernel_rfl) rfl (by simp [Value.oneCell']) ?_) | ((with_reducible refine at_ld ?_); refine wpList_load_row rfl 53 _ rfl p18 rfl 53 _ (0, 0) _ BX.out.2.2 Tryd.underlying53 rfl (by kernel_rfl) ?_) | go_values | go_skip | go_guarded | go_step | go_upon)
                refine bodyPost_ret (results_ct rfl _ _ p6 _ _ (0, 0) _ rfl BZ.out.2.2 rfl rfl Tryd.underlying53 (by kernel_rfl)) rfl ?_
                exact FIN.out _ BZ.out.grow
              · have tt : ((Int.tmod (tags.length : Int) 2) == 1) = false := by rw [beq_eq_false_iff_ne, show Int.tmod (tags.length : Int) 2 = ((tags.length % 2 : Nat) : Int) from rfl]; omega
                have P18 : Hid (p18 < w5.heap.size ∧ w.heap.size ≤ p18) := ⟨lt_of_block FW0.out.bx, by have := NE6.out.2; have := P6.out; omega⟩
                go_wp2_with fail
                go_loopw [19] (fun i wr => ∃ n : Nat, n ≤ tags.length ∧ n % 2 = 0 ∧ i = .int .i64 n ∧ Hid (∃ (av : Value) (B : List Atr), FW w5 p18 av B wr ∧ getAt Ks V (tags.take n) = some (B.map Atr.pl) ∧ (∀ a ∈ B, a.key ∈ Ks ∧ a.val ∈ V) ∧ 2 * B.length = n)) (fun i _ => tags.length - (intOf i).toNat)
                case atStart => exact ⟨0, Nat.zero_le _, rfl, rfl, _, [], FW0.out, rfl, by simp, rfl⟩
                case round =>
                  clear FW0
                  obtain ⟨n, hn, he, rfl, hls⟩ := hrel
                  obtain ⟨av, B, q0, q1, q2, q3⟩ := hls.out
                  clear hls
                  have GW : Hid (Grow w wr) := Tn.gr BF6.out.grow q0.tn fun j e => by have := P18.out; have := BF6.out.grow.size; omega
                  by_cases hlt : n < tags.length
                  · have hlt1 : n + 1 < tags.length := by omega
                    have TGr := Lib.hid (Tn.rd TG6.out (by decide) q0.tn fun b hb e => by have := P18.out; omega)
                    obtain ⟨_, A3, c9, e9, _, _, _, t9⟩ := TGr.out
                    obtain ⟨b3, o3, rfl, -, -⟩ := t9 (by omega)
                    injection e9 with e9 _ _
                    subst e9
                    obtain ⟨TW, TN⟩ := getAt_two hlt1 he q1
                    have e0 := TBD.out tags[n] (List.getElem_mem _)
                    have e1 := TBD.out tags[n + 1] (List.getElem_mem _)
                    have LU : (U32 tags).length = tags.length := by unfold U32; simp
                    obtain ⟨x, hx⟩ : ∃ x : Nat, tags[n] = (x : Int) := ⟨tags[n].toNat, by omega⟩
                    obtain ⟨y, hy⟩ : ∃ y : Nat, tags[n + 1] = (y : Int) := ⟨tags[n + 1].toNat, by omega⟩
                    have C0 : Hid (∀ W, Grow wr W → W.cell? ⟨b3, o3 + n, none⟩ = some (.int .u32 x)) := fun W h => by
                      have := rd_cell h TGr.out rfl (i := n) (by rw [LU]; exact hlt)
                      rw [this, ← hx]
                      unfold U32
                      simp
                    have C1 : Hid (∀ W, Grow wr W → W.cell? ⟨b3, o3 + (n + 1), none⟩ = some (.int .u32 y)) := fun W h => by
                      have := rd_cell h TGr.out rfl (i := n + 1) (by rw [LU]; exact hlt1)
                      rw [this, ← hy]
                      unfold U32
                      simp
                    rw [hx] at TW TN
                    rw [hy] at TW TN
                    have XB : x ≤ 4294967295 := by omega
                    have YB : y ≤ 4294967295 := by omega
                    rw [Int.toNat_natCast, Int.toNat_natCast] at TW TN
                    clear e0 e1 hx hy q1 LU t9
                    have c0 := C0.out wr (Grow.refl wr)
                    have c1 := C1.out wr (Grow.refl wr)
                    by_cases hxk : x < Ks.length
                    · by_cases hyv : y < V.length
                      · obtain ⟨b1, o1, rfl, hb1, hc1⟩ := k4 (by omega)
                        obtain ⟨b2, o2, rfl, hb2, hc2⟩ := v4 (by omega)
                        have EK : Hid (∀ W, Grow wr W → W.cell? ⟨b1, o1 + x, none⟩ = some (.string Ks[x])) := fun W h => by
                          have := rd_cell (GW.out.tr h) HK.out rfl (i := x) (by rw [show (strs Ks).length = Ks.length from by unfold strs; simp]; exact hxk)
                          rw [this]
                          unfold strs
                          simp
                        have EV := Lib.hid fun W (h : Grow wr W) => flat_cells Val.cells_len (GW.out.tr h) hb2 hc2 hyv
                        have TW := Lib.hid (TW Ks[x] V[y] (List.getElem?_eq_getElem hxk) (List.getElem?_eq_getElem hyv))
                        have PV := Lib.hid (HPV.out V[y] (List.getElem_mem hyv))
                        have MK := Lib.hid (List.getElem_mem hxk)
                        have MV := Lib.hid (List.getElem_mem hyv)
                        have Q0 := Lib.hid q0
                        clear hc1 hc2 k4 v4 TN NO YS q0
                        generalize Ks[x] = kx at *
                        generalize V[y] = vy at *
                        obtain ⟨vk, vt, vb⟩ := vy
                        go_upto_region 32 with fail
                        obtain ⟨L1, L2, rfl⟩ := own_slice Q0.out.ow
                        have Z4 : Hid (∀ W, Grow wr W → W.cell? ⟨p18, 4, none⟩ = some (.slice L1 B.length L2)) := fun W h => cell_of_row W p18 4 _ _ _ ((h.block p18 (lt_of_block Q0.out.bx)).trans Q0.out.bx)
                        refine wp_region_lexT (fun W => Grow wr W) ((Grow.refl _).dr) 19 [0, 1, 2, 3, 4, 5, 6, 7, 8, 9, 10, 11, 12, 13, 14, 15, 16, 17, 18] (by kernel_rfl) (by kernel_rfl) (by intro c a d v w h; cases d <;> exact h) ?_
                        have WR : Hid (IntKind.i64.wrap ((n : Int) + 1) = (n : Int) + 1 ∧ 0 ≤ (n : Int) + 1 ∧ (n : Int) + 1 < (tags.length : Int) ∧ ((n : Int) + 1).toNat = n + 1) := ⟨IntWalk.i64_in _ (by omega), by omega, by omega, by omega⟩
                        clear c0 c1
                        iterate 18 (apply lext_take; exact rfl; exact rfl; (intro W hW; obtain ⟨q1, q2, q3, q4⟩ := WR.out; have z4 := Z4.out W hW; have c0 := C0.out W hW; have c1 := C1.out W hW; have ek := EK.out W hW; have ev0 := EV.out W hW 0 _ rfl; have ev1 := EV.out W hW 1 _ rfl; have ev2 := EV.out W hW 2 _ rfl; simp only [Nat.add_zero] at ev0; (try clear hW); go_simp; with_reducible rfl); try simp only [Act.put, List.setIfInBounds_toArray, List.set_cons_zero, List.set_cons_succ])
                        have Q1 := Lib.hid (Q0.out.gr (Grow.refl wr).dr)
                        have GD : Hid (Grow wr wr.drew) := (Grow.refl wr).dr
                        clear EK EV Z4 C0 C1
                        generalize wr.drew = wd at *
                        apply lext_turn; exact rfl; exact rfl; exact rfl; intro K hK; go_simp; refine hK.out _ _ (GD.out.al _) ?_; clear hK; try simp only [Act.put, List.setIfInBounds_toArray, List.set_cons_zero, List.set_cons_succ]
                        refine lext_nil ?_
                        simp only [List.drop_succ_cons, List.drop_zero]
                        have BL : Hid (2 * B.length ≤ 100000) := by show _ ≤ _; omega
                        go_wp2_with (at_builtin; refine wpList_put rfl _ _ rfl el_atr Q1.out.ow rfl 1 _ rfl _ rfl (by decide) rfl (by simp [Value.oneCell']) (by have := BL.out; omega) Q1.out.tn.size ?_; intro v2 w2 hown2 hgr2 hb2; obtain ⟨A2, c2, rfl⟩ := own_slice hown2; have HF := Lib.hid (Q1.out.app (B' := B ++ [⟨kx, ⟨vk, vt, vb⟩⟩]) hgr2 (own_eq hown2 (by simp) (by simp [Atrs, Atr.cells]))); have b18 := (Tn.by_ (D := fun j => (Value.slice L1 B.length L2).ownBlock = some j) hgr2 fun _ e => e).blk Q1.out.bx (own_ne_box Q1.out.ow Q1.out.bx (by decide)); have y2 := cell_of_row _ _ 4 _ _ _ b18; have f2 := frozen_of_row _ _ 4 _ _ b18; clear b18 hown2 hgr2 hb2 Q1)
                        go_roundw
                        case rel => exact ⟨n + 2, by omega, by omega, by go_num, _, B ++ [⟨kx, ⟨vk, vt, vb⟩⟩], HF.out, by rw [TW.out, List.map_append]; show _ = some (B.map Atr.pl ++ [(kx, plainV ⟨vk, vt, vb⟩)]); rw [PV.out], fun a ha => by rcases List.mem_append.1 ha with ha | ha; exact q2 a ha; rw [List.mem_singleton.1 ha]; exact ⟨MK.out, MV.out⟩, by rw [List.length_append, List.length_singleton]; omega⟩
                        case measure => simp [intOf]; omega
                      · have FIN := Lib.hid (NO.out 3 (by rw [GFE.out, TN (.inr (List.getElem?_eq_none (by omega)))]))
                        clear NO YS TW TN OV
                        have BF := Lib.hid (BoxH.mk' GW.out BF6.out.2.1 (q0.tn.blk BF6.out.2.2 (by have := NE6.out; have := P18.out; omega)))
                        -- BF : the box of the feature at the world of the goal; FIN : the error
                        have BZ := Lib.hid (BF.out.row (cs' := #[.bool false, .int .u64 0, .int .i64 0, .slice none 0 0, .slice none 0 0]))
                        go_upto_region 31 with fail
                        repeat (first | ((with_reducible refine at_st ?_); refine wpList_store_row rfl 53 _ _ rfl p6 #[.bool false, .int .u64 0, .int .i64 0, .slice none 0 0, .slice none 0 0] rfl rfl 53 _ BF.out.2.2 (by kernel_rfl) rfl (by simp [Value.oneCell']) ?_) | ((with_reducible refine at_ld ?_); refine wpList_load_row rfl 53 _ rfl p18 rfl 53 _ (0, 0) _ BX.out.2.2 Tryd.underlying53 rfl (by kernel_rfl) ?_) | go_values | go_skip | go_guarded | go_step | go_upon)
                        refine bodyPost_ret (results_ct rfl _ _ p6 _ _ (0, 0) _ rfl BZ.out.2.2 rfl rfl Tryd.underlying53 (by kernel_rfl)) rfl ?_
                        exact FIN.out _ BZ.out.grow
                    · have FIN := Lib.hid (NO.out 3 (by rw [GFE.out, TN (.inl (List.getElem?_eq_none (by omega)))]))
                      clear NO YS TW TN OV
                      have BF := Lib.hid (BoxH.mk' GW.out BF6.out.2.1 (q0.tn.blk BF6.out.2.2 (by have := NE6.out; have := P18.out; omega)))
                      -- BF : the box of the feature at the world of the goal; FIN : the error
                      have BZ := Lib.hid (BF.out.row (cs' := #[.bool false, .int .u64 0, .int .i64 0, .slice none 0 0, .slice none 0 0]))
                      go_upto_region 31 with fail
                      repeat (first | ((with_reducible refine at_st ?_); refine wpList_store_row rfl 53 _ _ rfl p6 #[.bool false, .int .u64 0, .int .i64 0, .slice none 0 0, .slice none 0 0] rfl rfl 53 _ BF.out.2.2 (by kernel_rfl) rfl (by simp [Value.oneCell']) ?_) | ((with_reducible refine at_ld ?_); refine wpList_load_row rfl 53 _ rfl p18 rfl 53 _ (0, 0) _ BX.out.2.2 Tryd.underlying53 rfl (by kernel_rfl) ?_) | go_values | go_skip | go_guarded | go_step | go_upon)
                      refine bodyPost_ret (results_ct rfl _ _ p6 _ _ (0, 0) _ rfl BZ.out.2.2 rfl rfl Tryd.underlying53 (by kernel_rfl)) rfl ?_
                      exact FIN.out _ BZ.out.grow
                  · obtain rfl : n = tags.length := by omega
                    rw [List.take_length] at q1
                    have GF2 := GFE.out
                    rw [q1] at GF2
                    dsimp only at GF2
                    have OB := Lib.hid (OV.out B q2)
                    have FF : Hid (FX w w5 p6 p18 ab fs (.slice F1 fs.length F2) (.slice U1 U2 U3) av geo B #[.bool false, .int .u64 0, .int .i64 0, .slice none 0 0, av] wr) :=
                      ⟨NE6.out.2, NE6.out.1, P18.out.1, q0.tn.size, BoxH.mk' GW.out BF6.out.2.1 (q0.tn.blk BF6.out.2.2 (by have := NE6.out; have := P18.out; omega)), BoxH.mk' GW.out P18.out.2 q0.bx, q0.tn.blk AT6.out.2.2 (by have := NE6.out; have := P18.out; omega), FL6.out.tn q0.tn fun b hb e => (by have := NE6.out; have := P18.out; omega), Tn.rd GV6.out (by decide) q0.tn fun b hb e => (by have := P18.out; omega), Rd.own_from q0.ow⟩
                    obtain ⟨L1, L2, rfl⟩ := own_slice q0.ow
                    clear hlt hn GFE q0 q1 q2 q3 OV AT6 BF6 FL6 TG6 GV6 TBD HK HV k4 v4 HPV GW NE6 P6 k3 v3 PN
                    have y3 := FF.out.at3
                    rcases pickR HFS.out (m := 3) (by omega) (by omega) AO.out with ⟨e1, e2⟩ | ⟨j, hj, e1, e2⟩
                    · rw [e1] at GF2
                      have FIN := Lib.hid (NO.out 3 GF2)
                      rw [e2] at y3
                      have BF := Lib.hid FF.out.bf
                      clear NO YS HFS FF AO GF2 e1 e2
                      -- BF : the box of the feature at the world of the goal; FIN : the error
                      have BZ := Lib.hid (BF.out.row (cs' := #[.bool false, .int .u64 0, .int .i64 0, .slice none 0 0, .slice none 0 0]))
                      go_upto_region 34 with fail
                      repeat (first | ((with_reducible refine at_st ?_); refine wpList_store_row rfl 53 _ _ rfl p6 #[.bool false, .int .u64 0, .int .i64 0, .slice none 0 0, .slice none 0 0] rfl rfl 53 _ BF.out.2.2 (by kernel_rfl) rfl (by simp [Value.oneCell']) ?_) | ((with_reducible refine at_ld ?_); refine wpList_load_row rfl 53 _ rfl p18 rfl 53 _ (0, 0) _ BX.out.2.2 Tryd.underlying53 rfl (by kernel_rfl) ?_) | go_values | go_skip | go_guarded | go_step | go_upon)
                      refine bodyPost_ret (results_ct rfl _ _ p6 _ _ (0, 0) _ rfl BZ.out.2.2 rfl rfl Tryd.underlying53 (by kernel_rfl)) rfl ?_
                      exact FIN.out _ BZ.out.grow
                    · rw [e1] at GF2
                      dsimp only at GF2
                      obtain ⟨b1, o1, rfl, -, -, d2, -⟩ := fld_cells FF.out.fl hj
                      rw [e2] at y3
                      clear e1 e2
                      have e1 : fs[j].fd.int = fs[j].int := rfl
                      rw [e1] at GF2
                      clear e1
                      generalize fs[j].int = i3 at *
                      have GF2 := Lib.hid GF2
                      by_cases hk : i3 < 1 ∨ 3 < i3
                      · have FIN := Lib.hid (NO.out 3 (by rw [GF2.out, if_pos hk]))
                        have BF := Lib.hid FF.out.bf
                        clear NO YS HFS FF AO GF2
                        rcases hk with hk | hk
                        all_goals
                          -- BF : the box of the feature at the world of the goal; FIN : the error
                          have BZ := Lib.hid (BF.out.row (cs' := #[.bool false, .int .u64 0, .int .i64 0, .slice none 0 0, .slice none 0 0]))
                          go_upto_region 34 with fail
                          repeat (first | ((with_reducible refine at_st ?_); refine wpList_store_row rfl 53 _ _ rfl p6 #[.bool false, .int .u64 0, .int .i64 0, .slice none 0 0, .slice none 0 0] rfl rfl 53 _ BF.out.2.2 (by kernel_rfl) rfl (by simp [Value.oneCell']) ?_) | ((with_reducible refine at_ld ?_); refine wpList_load_row rfl 53 _ rfl p18 rfl 53 _ (0, 0) _ BX.out.2.2 Tryd.underlying53 rfl (by kernel_rfl) ?_) | go_values | go_skip | go_guarded | go_step | go_upon)
                          refine bodyPost_ret (results_ct rfl _ _ p6 _ _ (0, 0) _ rfl BZ.out.2.2 rfl rfl Tryd.underlying53 (by kernel_rfl)) rfl ?_
                          exact FIN.out _ BZ.out.grow
                      · have GF3 := Lib.hid (GF2.out.trans (if_neg hk))
                        have k1' : 1 ≤ i3 := by omega
                        have k2' : i3 ≤ 3 := by omega
                        clear hk GF2
                        have x2 := FF.out.bx.cell 2
                        have x2f := FF.out.bx.free 2
                        go_upto_region 36 with fail
                        have F2 := Lib.hid (FF.out.set 2 (.int .i64 (i3 : Int)))
                        clear FF x2 x2f y3 d2
                        generalize wr.setCell ⟨p18, 2, none⟩ (.int .i64 (i3 : Int)) = wx at *
                        have x2 : wx.cell? ⟨p18, 2, none⟩ = some (.int .i64 (i3 : Int)) := F2.out.bx.cell 2
                        go_wp2_with fail
                        go_at_call 97
                        refine rdecode_any (i3 : Int) geo _ _ wx F2.out.gv GBD.out GLN.out ?_
                        cases hd : decS i3 geo with
                        | error e =>
                          refine decH_err hd ?_
                          intro w6 hg6
                          have he0 := decS_err hd
                          have t2 : (e != 0) = true := by simp [he0]
                          have FIN := Lib.hid (NO.out e (by rw [GF3.out, hd]))
                          have BF := Lib.hid (F2.out.gr hg6).bf
                          clear NO YS HFS F2 AO GF3 hd hg6 he0 x2
                          -- BF : the box of the feature at the world of the goal; FIN : the error
                          have BZ := Lib.hid (BF.out.row (cs' := #[.bool false, .int .u64 0, .int .i64 0, .slice none 0 0, .slice none 0 0]))
                          go_upto_region 38 with fail
                          repeat (first | ((with_reducible refine at_st ?_); refine wpList_store_row rfl 53 _ _ rfl p6 #[.bool false, .int .u64 0, .int .i64 0, .slice none 0 0, .slice none 0 0] rfl rfl 53 _ BF.out.2.2 (by kernel_rfl) rfl (by simp [Value.oneCell']) ?_) | ((with_reducible refine at_ld ?_); refine wpList_load_row rfl 53 _ rfl p18 rfl 53 _ (0, 0) _ BX.out.2.2 Tryd.underlying53 rfl (by kernel_rfl) ?_) | go_values | go_skip | go_guarded | go_step | go_upon)
                          refine bodyPost_ret (results_ct rfl _ _ p6 _ _ (0, 0) _ rfl BZ.out.2.2 rfl rfl Tryd.underlying53 (by kernel_rfl)) rfl ?_
                          exact FIN.out _ BZ.out.grow
                        | ok ps =>
                          refine decH_ok hd ?_
                          intro rows hrows pv w6 hOp hRp hg6
                          have F6 := Lib.hid (F2.out.gr hg6)
                          have OKP := GF3.out
                          rw [hd] at OKP
                          dsimp only at OKP
                          rw [← hrows] at OKP
                          have OKP := Lib.hid OKP
                          have PTS : Hid (∀ r ∈ rows, r.l.length ≤ 140737488355328) := fun r hr => by
                            obtain ⟨d1, d2, d3, d4, d5⟩ := dec_enc (fun x hx => (GBD.out x hx).1) hd
                            have := encS_mem (kind := (i3 : Int)) (ps := ps) d4 r.l (hrows ▸ List.mem_map.2 ⟨r, hr, rfl⟩)
                            rw [d2] at this
                            have := GLN.out
                            omega
                          obtain ⟨P1, P2, rfl⟩ := own_slice hOp
                          have PV1 : Hid (Rd w6 (fun b => w5.heap.size ≤ b) 1 (.slice P1 rows.length P2) rows.length (rows.map PRow.v)) := (Rd.own_from hOp).into fun b hb => Nat.le_trans F2.out.o4 hb
                          have PV2 : Hid (∀ r ∈ rows, r.rd w6 (fun b => w5.heap.size ≤ b)) := fun r hr => Rd.into (hRp r hr) fun b hb => Nat.le_trans F2.out.o4 hb
                          have ts := Tn_set w6 p18 3 (.slice P1 rows.length P2)
                          have F7 := Lib.hid (F6.out.set 3 (.slice P1 rows.length P2))
                          have PV3 := Lib.hid (Tn.rd PV1.out (by decide) ts fun b hb e => by have := P18.out; omega)
                          have PV4 : Hid (∀ r ∈ rows, r.rd (w6.setCell ⟨p18, 3, none⟩ (.slice P1 rows.length P2)) (fun b => w5.heap.size ≤ b)) := fun r hr => Tn.rd (PV2.out r hr) (by decide) ts fun b hb e => by have := P18.out; omega
                          have x3 := F6.out.bx.cell 3
                          have x3f := F6.out.bx.free 3
                          have I3 : Hid (I64 (i3 : Int)) := by unfold I64; show _ ≤ (i3 : Int) ∧ (i3 : Int) ≤ _; omega
                          clear NO hd hg6 hOp hRp hrows x2 F2 GF3 PV1 PV2 ts GBD GLN
                          go_upto_region 40 with fail
                          clear x3 x3f F6
                          generalize w6.setCell ⟨p18, 3, none⟩ (.slice P1 rows.length P2) = w7 at *
                          have y1 := F7.out.at1
                          rcases pickR HFS.out (m := 1) (by omega) (by omega) AO.out with ⟨e1, e2⟩ | ⟨j1, hj1, e1, e2⟩
                          · rw [e2] at y1
                            have OK := OKP.out
                            rw [e1] at OK
                            have OK := Lib.hid OK
                            clear e1 e2 OKP
                            -- F : what stands at the world W; IB: the number is small; OK : the equation
                            have BX : Hid (BoxH w p18 #[.bool false, .int .u64 0, .int .i64 (i3 : Int), .slice P1 rows.length P2, .slice L1 B.length L2] 53 w7) := F7.out.bx
                            have BZ := Lib.hid (F7.out.bf.row (cs' := #[.bool false, .int .u64 0, .int .i64 (i3 : Int), .slice P1 rows.length P2, .slice L1 B.length L2]))
                            have BF := Lib.hid F7.out.bf
                            have FIN := Lib.hid fun w' => YS.out ⟨⟨false, 0, i3, .slice P1 rows.length P2, .slice L1 B.length L2⟩, rows, B⟩ w' OK.out
                            clear YS OK AO HFS
                            go_upto_region 42 with fail
                            repeat (first | ((with_reducible refine at_st ?_); refine wpList_store_row rfl 53 _ _ rfl p6 #[.bool false, .int .u64 0, .int .i64 (i3 : Int), .slice P1 rows.length P2, .slice L1 B.length L2] rfl rfl 53 _ BF.out.2.2 (by kernel_rfl) rfl (by simp [Value.oneCell']) ?_) | ((with_reducible refine at_ld ?_); refine wpList_load_row rfl 53 _ rfl p18 rfl 53 _ (0, 0) _ BX.out.2.2 Tryd.underlying53 rfl (by kernel_rfl) ?_) | go_values | go_skip | go_guarded | go_step | go_upon)
                            refine bodyPost_ret (results_ct rfl _ _ p6 _ _ (0, 0) _ rfl BZ.out.2.2 rfl rfl Tryd.underlying53 (by kernel_rfl)) rfl ?_
                            have k1 := F7.out.o1
                            have k3 := F7.out.o3
                            have k4 := P18.out.2
                            refine FIN.out _ ⟨?_, fun r hr => ?_, ?_⟩ ⟨by simp, I3.out, PTS.out, OB.out⟩ BZ.out.grow
                            · exact (PV3.out.rowS (fun b hb => by omega) _).into fun b hb => by omega
                            · exact ((PV4.out r hr).rowS (fun b hb => by omega) _).into fun b hb => by omega
                            · exact (F7.out.av.rowS (fun b hb => by omega) _).into fun b hb => by omega
                          · obtain ⟨b9, o9, e9, -, -, d2, -⟩ := fld_cells F7.out.fl hj1
                            injection e9 with e9
                            injection e9 with e9 e10
                            subst e9 e10
                            have NB9 := Lib.hid (fld_blk (S := (· < ab)) F7.out.fl (Nat.lt_of_le_of_lt (Nat.zero_le _) hj1))
                            have IB := Lib.hid (F7.out.fl.2 fs[j1] (List.getElem_mem hj1)).2.2.1
                            have OK := OKP.out
                            rw [e1] at OK
                            dsimp only at OK
                            have e3 : fs[j1].fd.int = fs[j1].int := rfl
                            rw [e3] at OK
                            rw [e2] at y1
                            have OK := Lib.hid OK
                            clear e1 e2 e3 OKP
                            generalize fs[j1].int = i1 at *
                            go_upto_region 41 with fail
                            have F8 := Lib.hid (F7.out.gr (Grow.refl w7).dr)
                            have PW3 := Lib.hid (PV3.out.gr2 (by decide) (Grow.refl w7).dr)
                            have PW4 : Hid (∀ r ∈ rows, r.rd w7.drew (fun b => w5.heap.size ≤ b)) := fun r hr => Rd.gr2 (PV4.out r hr) (by decide) (Grow.refl w7).dr
                            have C1 : Hid (w7.drew.cell? ⟨ab, 1, none⟩ = some (.int .i64 (j1 : Int)) ∧ w7.drew.cell? ⟨b1, o1 + j1 * 4 + 2, none⟩ = some (.int .u64 (i1 : Int))) := ⟨by show _ = _; simpa using y1, by show _ = _; simpa using d2⟩
                            have HJ : (j1 : Int) < (fs.length : Int) := by omega
                            refine wp_region_lexT (fun W => W.cell? ⟨ab, 1, none⟩ = some (.int .i64 (j1 : Int)) ∧ W.cell? ⟨b1, o1 + j1 * 4 + 2, none⟩ = some (.int .u64 (i1 : Int))) (C1.out) 9 [0, 1, 2, 3, 4, 5, 6, 7, 8] (by kernel_rfl) (by kernel_rfl) (by intro c a d v w h; cases d <;> exact h) ?_
                            clear y1 d2
                            generalize w7.drew = wd at *
                            iterate 8 (apply lext_take; exact rfl; exact rfl; (intro W hW; have y1 := hW.1; have d2 := hW.2; (try clear hW); go_simp; with_reducible rfl); try simp only [Act.put, List.setIfInBounds_toArray, List.set_cons_zero, List.set_cons_succ])
                            have x0 := F8.out.bx.cell 0
                            have x0f := F8.out.bx.free 0
                            have ts := Tn_set wd p18 0 (.bool true)
                            have F9 := Lib.hid (F8.out.set 0 (.bool true))
                            have PX3 := Lib.hid (Tn.rd PW3.out (by decide) ts fun b hb e => by have := P18.out; omega)
                            have PX4 : Hid (∀ r ∈ rows, r.rd (wd.setCell ⟨p18, 0, none⟩ (.bool true)) (fun b => w5.heap.size ≤ b)) := fun r hr => Tn.rd (PW4.out r hr) (by decide) ts fun b hb e => by have := P18.out; omega
                            apply lext_turn; exact rfl; exact rfl; exact rfl; intro K hK; go_simp; refine hK.out _ _ ?_ ?_; rotate_left; clear hK
                            refine lext_nil ?_
                            simp only [List.drop_succ_cons, List.drop_zero]
                            have G8 : Hid (Grow w wd) := F8.out.bf.grow
                            clear F8 PW3 PW4 x0 x0f ts
                            generalize wd.setCell ⟨p18, 0, none⟩ (.bool true) = we at *
                            have x1 := F9.out.bx.cell 1
                            have x1f := F9.out.bx.free 1
                            have ts := Tn_set we p18 1 (.int .u64 (i1 : Int))
                            have Fa := Lib.hid (F9.out.set 1 (.int .u64 (i1 : Int)))
                            have PY3 := Lib.hid (Tn.rd PX3.out (by decide) ts fun b hb e => by have := P18.out; omega)
                            have PY4 : Hid (∀ r ∈ rows, r.rd (we.setCell ⟨p18, 1, none⟩ (.int .u64 (i1 : Int))) (fun b => w5.heap.size ≤ b)) := fun r hr => Tn.rd (PX4.out r hr) (by decide) ts fun b hb e => by have := P18.out; omega
                            clear F9 PX3 PX4 ts
                            -- F : what stands at the world W; IB: the number is small; OK : the equation
                            have BX : Hid (BoxH w p18 #[.bool true, .int .u64 (i1 : Int), .int .i64 (i3 : Int), .slice P1 rows.length P2, .slice L1 B.length L2] 53 (we.setCell ⟨p18, 1, none⟩ (.int .u64 (i1 : Int)))) := Fa.out.bx
                            have BZ := Lib.hid (Fa.out.bf.row (cs' := #[.bool true, .int .u64 (i1 : Int), .int .i64 (i3 : Int), .slice P1 rows.length P2, .slice L1 B.length L2]))
                            have BF := Lib.hid Fa.out.bf
                            have FIN := Lib.hid fun w' => YS.out ⟨⟨true, i1, i3, .slice P1 rows.length P2, .slice L1 B.length L2⟩, rows, B⟩ w' OK.out
                            clear YS OK AO HFS
                            go_upto_region 42 with fail
                            repeat (first | ((with_reducible refine at_st ?_); refine wpList_store_row rfl 53 _ _ rfl p6 #[.bool true, .int .u64 (i1 : Int), .int .i64 (i3 : Int), .slice P1 rows.length P2, .slice L1 B.length L2] rfl rfl 53 _ BF.out.2.2 (by kernel_rfl) rfl (by simp [Value.oneCell']) ?_) | ((with_reducible refine at_ld ?_); refine wpList_load_row rfl 53 _ rfl p18 rfl 53 _ (0, 0) _ BX.out.2.2 Tryd.underlying53 rfl (by kernel_rfl) ?_) | go_values | go_skip | go_guarded | go_step | go_upon)
                            refine bodyPost_ret (results_ct rfl _ _ p6 _ _ (0, 0) _ rfl BZ.out.2.2 rfl rfl Tryd.underlying53 (by kernel_rfl)) rfl ?_
                            have k1 := F7.out.o1
                            have k3 := F7.out.o3
                            have k4 := P18.out.2
                            refine FIN.out _ ⟨?_, fun r hr => ?_, ?_⟩ ⟨IB.out, I3.out, PTS.out, OB.out⟩ BZ.out.grow
                            · exact (PY3.out.rowS (fun b hb => by omega) _).into fun b hb => by omega
                            · exact ((PY4.out r hr).rowS (fun b hb => by omega) _).into fun b hb => by omega
                            · exact (Fa.out.av.rowS (fun b hb => by omega) _).into fun b hb => by omega
                            first | exact C1.out | exact ⟨(blk_cell (Tn_blk (Tn_set wd p18 0 (.bool true)) (lt_of_block F8.out.at_) (by have := F8.out.o2; omega)) 1).trans C1.out.1, (blk_cell (Tn_blk (Tn_set wd p18 0 (.bool true)) (by have := NB9.out; have := lt_of_block F8.out.at_; omega) (by have := NB9.out; have := F8.out.o2; omega)) (o1 + j1 * 4 + 2)).trans C1.out.2⟩
  · have t1 : ((get b).2 != 0) = true := by simp [he]
    have FIN := Lib.hid (NO.out (get b).2 (by unfold getF; rw [if_pos he]))
    clear NO YS OV HBB FL HFS he HK HV k4 v4
    generalize (get b).2 = e at *
    -- BF : the box of the feature at the world of the goal; FIN : the error
    have BZ := Lib.hid (BF.out.row (cs' := #[.bool false, .int .u64 0, .int .i64 0, .slice none 0 0, .slice none 0 0]))
    go_upto_region 3 with fail
    repeat (first | ((with_reducible refine at_st ?_); refine wpList_store_row rfl 53 _ _ rfl p6 #[.bool false, .int .u64 0, .int .i64 0, .slice none 0 0, .slice none 0 0] rfl rfl 53 _ BF.out.2.2 (by kernel_rfl) rfl (by simp [Value.oneCell']) ?_) | ((with_reducible refine at_ld ?_); refine wpList_load_row rfl 53 _ rfl p18 rfl 53 _ (0, 0) _ BX.out.2.2 Tryd.underlying53 rfl (by kernel_rfl) ?_) | go_values | go_skip | go_guarded | go_step | go_upon)
    refine bodyPost_ret (results_ct rfl _ _ p6 _ _ (0, 0) _ rfl BZ.out.2.2 rfl rfl Tryd.underlying53 (by kernel_rfl)) rfl ?_
    exact FIN.out _ BZ.out.grow
end Go.Proofs.YtfdjdfobhkmlpaaDoor

namespace Go.Proofs.YtfdjdfobhkmlpaaDoor
open Go.RowKit B

structure RK (w w5 : World) (p2 p9 : Nat) (fs : List Fld) (lv : Value) (cs : Array Value) (kv vv : Value) (K : List ByteArray) (V : List Val) (W : World) : Prop where
  o1 : p2 < p9
  o3 : p9 < w5.heap.size
  o4 : w5.heap.size ≤ W.heap.size
  bf : BoxH w p2 #[.string ⟨#[]⟩, .int .i64 0, .slice none 0 0] 27 W
  bx : BoxH w p9 cs 27 W
  fl : Flds W (· < p9) lv fs
  ok : W.ownsRow w5.heap.size 9 1 kv K.length (strs K)
  ov : W.ownsRow w5.heap.size 37 3 vv V.length (Vals V)
section
variable {w w5 W W' : World} {p2 p9 : Nat} {fs : List Fld} {lv : Value} {cs cs' : Array Value} {kv vv kv' vv' : Value} {K K' : List ByteArray} {V V' : List Val}
theorem RK.turn (h : RK w w5 p2 p9 fs lv cs kv vv K V W) {E : Nat → Prop} (ht : Tn E W W') (hE : ∀ j, E j → j = p9 ∨ w5.heap.size ≤ j) (b9 : W'.heap[p9]? = some (.cells cs' 27 (0, 0)))
    (ok : W'.ownsRow w5.heap.size 9 1 kv' K'.length (strs K')) (ov : W'.ownsRow w5.heap.size 37 3 vv' V'.length (Vals V')) : RK w w5 p2 p9 fs lv cs' kv' vv' K' V' W' := by
  have o1 := h.o1
  have o3 := h.o3
  have b1 := h.bf.2.1
  have hg := h.bf.grow.size
  have g : Grow w W' := Tn.gr h.bf.grow ht fun j hj => by rcases hE j hj with rfl | hj <;> omega
  exact ⟨h.o1, h.o3, Nat.le_trans h.o4 ht.size, ⟨g, h.bf.2.1, ht.blk h.bf.2.2 fun e => by rcases hE _ e with e | e <;> omega⟩, ⟨g, h.bx.2.1, b9⟩, h.fl.tn ht fun b hb e => by rcases hE _ e with e | e <;> omega, ok, ov⟩
theorem RK.gr (h : RK w w5 p2 p9 fs lv cs kv vv K V W) (hg : Grow W W') : RK w w5 p2 p9 fs lv cs kv vv K V W' :=
  h.turn (E := fun _ => False) (Tn.of hg) (fun _ e => e.elim) ((hg.block _ (lt_of_block h.bx.2.2)).trans h.bx.2.2) (own_grow h.ok hg) (own_grow h.ov hg)
theorem RK.key (h : RK w w5 p2 p9 fs lv cs kv vv K V W) (hg : W.grownBy W' kv.ownBlock) (ho : W'.ownsRow w5.heap.size 9 1 kv' K'.length (strs K')) : RK w w5 p2 p9 fs lv cs kv' vv K' V W' := by
  have t1 : Tn (fun j => kv.ownBlock = some j) W W' := Tn.by_ hg fun _ e => e
  exact h.turn t1 (fun j e => .inr (own_ge h.ok j e)) (t1.blk h.bx.2.2 (own_ne_box h.ok h.bx.2.2 (by decide))) ho (Tn.own h.ov t1 fun j e e2 => own_ne_own h.ok h.ov (by decide) j e2 e)
theorem RK.val (h : RK w w5 p2 p9 fs lv cs kv vv K V W) (hg : W.grownBy W' vv.ownBlock) (ho : W'.ownsRow w5.heap.size 37 3 vv' V'.length (Vals V')) : RK w w5 p2 p9 fs lv cs kv vv' K V' W' := by
  have t1 : Tn (fun j => vv.ownBlock = some j) W W' := Tn.by_ hg fun _ e => e
  exact h.turn t1 (fun j e => .inr (own_ge h.ov j e)) (t1.blk h.bx.2.2 (own_ne_box h.ov h.bx.2.2 (by decide))) (Tn.own h.ok t1 fun j e e2 => own_ne_own h.ok h.ov (by decide) j e e2) ho
/-- features under way -/
structure RF (w w5 : World) (p2 p9 : Nat) (fs : List Fld) (lv : Value) (nm : ByteArray) (ext : Int) (fv kv vv : Value) (K : List ByteArray) (V : List Val) (F : List FtR) (W : World) : Prop where
  rk : RK w w5 p2 p9 fs lv #[.string nm, .int .i64 ext, fv] kv vv K V W
  fo : W.ownsRow w5.heap.size 53 5 fv F.length (Fts F)
  fr : ∀ x ∈ F, x.rd W (fun b => w5.heap.size ≤ b ∧ Ins fv b)
  ok : ∀ x ∈ F, x.ok
variable {nm : ByteArray} {ext : Int} {fv fv' : Value} {F : List FtR} {x : FtR} {m : Nat}
theorem RF.gr (h : RF w w5 p2 p9 fs lv nm ext fv kv vv K V F W) (hg : Grow W W') : RF w w5 p2 p9 fs lv nm ext fv kv vv K V F W' :=
  ⟨h.rk.gr hg, own_grow h.fo hg, fun x hx => (h.fr x hx).gr hg, h.ok⟩
theorem RF.feat (h : RF w w5 p2 p9 fs lv nm ext fv kv vv K V F W) (hg : W.grownBy W' fv.ownBlock) (ho : W'.ownsRow w5.heap.size 53 5 fv' (F ++ [x]).length (Fts (F ++ [x]))) (hm : W.heap.size ≤ m) (hb : fv'.ownBlock = fv.ownBlock ∨ fv'.ownBlock = some m)
    (hx : x.rd W (fun b => w5.heap.size ≤ b ∧ Ins fv b)) (hk : x.ok) : RF w w5 p2 p9 fs lv nm ext fv' kv vv K V (F ++ [x]) (W'.setCell ⟨p9, 2, none⟩ fv') := by
  have o3 := h.rk.o3
  have t1 : Tn (fun j => fv.ownBlock = some j) W W' := Tn.by_ hg fun _ e => e
  have b9 := t1.blk h.rk.bx.2.2 (own_ne_box h.fo h.rk.bx.2.2 (by decide))
  have r1 := h.rk.turn t1 (fun j e => .inr (own_ge h.fo j e)) b9 (Tn.own h.rk.ok t1 fun j e e2 => own_ne_own h.rk.ok h.fo (by decide) j e e2) (Tn.own h.rk.ov t1 fun j e e2 => own_ne_own h.rk.ov h.fo (by decide) j e e2)
  have ts := Tn_set W' p9 2 fv'
  have hb2 := blk_set b9 2 fv'
  refine ⟨r1.turn ts (fun j e => .inl e) (by simpa using hb2) (Tn.own r1.ok ts fun j e e2 => own_ne_box r1.ok b9 (by decide) (e2 ▸ e)) (Tn.own r1.ov ts fun j e e2 => own_ne_box r1.ov b9 (by decide) (e2 ▸ e)), Tn.own ho ts fun k e e2 => own_ne_box ho b9 (by decide) (e2 ▸ e), fun y hy => ?_, fun y hy => ?_⟩
  · have key : y.rd W (fun b => w5.heap.size ≤ b ∧ Ins fv b) := by
      rcases List.mem_append.1 hy with hy | hy
      · exact h.fr y hy
      · rw [List.mem_singleton.1 hy]; exact hx
    exact (key.insP hg hm hb).set fun b hb => by omega
  · rcases List.mem_append.1 hy with hy | hy
    · exact h.ok y hy
    · rw [List.mem_singleton.1 hy]; exact hk
theorem RF.fresh (h : RF w w5 p2 p9 fs lv nm ext fv kv vv K V F W) {S : Nat} (hx : x.rd W' (fun b => S ≤ b)) (hS : W.heap.size ≤ S) : x.rd W' (fun b => w5.heap.size ≤ b ∧ Ins fv b) :=
  hx.into fun b hb => ⟨by have := h.rk.o4; omega, fun e => by have := (h.fo.lt b e.symm).2; omega⟩
theorem RF.lyr (h : RF w w5 p2 p9 fs lv nm ext fv kv vv K V F W) : LyR.rd ⟨nm, ext, fv, F⟩ W (fun b => w5.heap.size ≤ b) :=
  ⟨Rd.own_from h.fo, fun f hf => (h.fr f hf).into fun _ hb => hb.1⟩
end

theorem getGo_one (b : List UInt8) : ∀ (f k : Nat) (acc : List FD), (∀ x ∈ acc, 1 ≤ x.num) → ∀ x ∈ (getGo b f k acc).1, 1 ≤ x.num := by
  intro f
  induction f with
  | zero => exact fun k acc h => h
  | succ f ih =>
    intro k acc h
    by_cases hk : b.length ≤ k
    · rw [getGo_end hk]; exact h
    · by_cases he : (varint b k).2.2 = 0
      · by_cases hn : (varint b k).1 / 8 < 1 ∨ 536870911 < (varint b k).1 / 8
        · rw [getGo_num hk he hn]; simp
        · by_cases hb : (bodyS b (varint b k).2.1.toNat ((varint b k).1 % 8).toNat).2.2.2 = 0
          · rw [getGo_more hk he hn hb]
            refine ih _ _ fun x hx => ?_
            rcases List.mem_append.1 hx with hx | hx
            · exact h x hx
            · rw [List.mem_singleton.1 hx]; show 1 ≤ (varint b k).1 / 8; omega
          · rw [getGo_body hk he hn hb]; simp
      · rw [getGo_err hk he]; simp
theorem get_num1 (b : List UInt8) : ∀ x ∈ (get b).1, 1 ≤ x.num := getGo_one b _ _ _ (by simp)
/-! ### plain: what is got, by the fields' places -/
theorem onceL_split {l : List FD} : onceL l = (([(1 : Int), 5, 15].all fun n => decide ((numF l n).length ≤ 1)) && (kindF l 1 2 && kindF l 2 2 && kindF l 3 2 && kindF l 4 2 && kindF l 5 0 && kindF l 15 0)) := by
  unfold onceL
  simp only [Bool.and_assoc]
theorem onceL_two {l : List FD} {n : Int} (hn : n = 1 ∨ n = 5 ∨ n = 15) (h : 2 ≤ (numF l n).length) : onceL l = false := by
  rw [onceL_split]
  have e : ([(1 : Int), 5, 15].all fun n => decide ((numF l n).length ≤ 1)) = false := by
    rw [List.all_eq_false]
    exact ⟨n, by rcases hn with rfl | rfl | rfl <;> simp, by simp; omega⟩
  rw [e]
  rfl
theorem getLy_bad {b : List UInt8} (h0 : (get b).2 = 0) (h : onceL (get b).1 = false ∨ numF (get b).1 1 = [] ∨ intF (get b).1 15 1 < 1 ∨ 2 < intF (get b).1 15 1) : getLy b = .error 3 := by
  unfold getLy
  rw [if_neg (by simp [h0]), if_pos h]
theorem getLy_two {b : List UInt8} {f : FD} {r : List FD} (h0 : (get b).2 = 0) (h1 : onceL (get b).1 = true) (h2 : numF (get b).1 1 = f :: r) (h3 : ¬ (intF (get b).1 15 1 < 1 ∨ 2 < intF (get b).1 15 1)) :
    (∀ e, mapE valE ((numF (get b).1 4).map FD.data) = .error e → getLy b = .error e) ∧
      ∀ V, mapE valE ((numF (get b).1 4).map FD.data) = .ok V → (∀ e, mapE (getF (keysF (get b).1) V) ((numF (get b).1 2).map FD.data) = .error e → getLy b = .error e) ∧
        ∀ F, mapE (getF (keysF (get b).1) V) ((numF (get b).1 2).map FD.data) = .ok F → getLy b = .ok (⟨f.data.toArray⟩, ((min (intF (get b).1 5 4096) 65537 : Nat) : Int), F) := by
  have key : getLy b = match mapE valE ((numF (get b).1 4).map FD.data) with
      | .error e => .error e
      | .ok V => match mapE (getF (keysF (get b).1) V) ((numF (get b).1 2).map FD.data) with
        | .error e => .error e
        | .ok F => .ok (⟨(dataF (get b).1 1).toArray⟩, (min (intF (get b).1 5 4096) 65537 : Nat), F) := by
    unfold getLy
    rw [if_neg (by simp [h0]), if_neg]
    · rfl
    · rintro (h | h | h)
      · rw [h1] at h; cases h
      · rw [h2] at h; cases h
      · exact h3 h
  have e1 : dataF (get b).1 1 = f.data := by unfold dataF; rw [h2]
  rw [key]
  refine ⟨fun e he => by rw [he], fun V hV => ?_⟩
  rw [hV]
  dsimp only
  refine ⟨fun e he => by rw [he], fun F hF => ?_⟩
  rw [hF, e1]
theorem one_le {fs : List Fld} {l : List FD} (hfs : fs.map Fld.fd = l) {n : Int} (h : ¬ oneF fs n = -2) : (numF l n).length ≤ 1 := by
  subst hfs
  rcases oneF_is fs n with ⟨e, _⟩ | ⟨j, _, _, e, _⟩ | ⟨_, e⟩
  · rw [e]; simp
  · rw [e]; simp
  · exact absurd e h
theorem pickA {fs : List Fld} {l : List FD} (hfs : fs.map Fld.fd = l) (m : Int) : (numF l m = [] ∧ oneF fs m = -1) ∨ (∃ (j : Nat) (hj : j < fs.length), numF l m = [fs[j].fd] ∧ oneF fs m = (j : Int)) ∨ (2 ≤ (numF l m).length ∧ oneF fs m = -2) := by
  subst hfs
  rcases oneF_is fs m with h | ⟨j, hj, _, e1, e2⟩ | h
  · exact .inl h
  · exact .inr (.inl ⟨j, hj, e1, e2⟩)
  · exact .inr (.inr h)
end Go.Proofs.YtfdjdfobhkmlpaaDoor

namespace Go.Proofs.YtfdjdfobhkmlpaaDoor
open Go.RowKit B

set_option maxRecDepth 100000 in
set_option maxHeartbeats 6000000 in
theorem rlayer_any (b : List UInt8) (bv : Value) (S : Nat → Prop) (w : World) (hb : Rd w S 1 bv b.length (U8 b)) (hB : LyB b) (hT : Tabs w) {R : Ending → World → Prop}
    (h0 : ∀ e, getLy b = .error e → ∀ (nm : ByteArray) (ext : Int) (f1 : Option Addr) (f2 f3 : Nat) w', Grow w w' → R (.returned (.tuple #[.agg #[.string nm, .int .i64 ext, .slice f1 f2 f3], .int .i64 e])) w')
    (h1 : ∀ (x : LyR) w', getLy b = .ok x.pl → x.rd w' (fun b => w.heap.size ≤ b) → x.ok → Grow w w' → R (.returned (.tuple #[.agg x.cells.toArray, .int .i64 0])) w') :
    Calls Tryd.prog 46 #[bv] w R := by
  have NO : Hid (∀ e, getLy b = .error e → ∀ w', Grow w w' → R (.returned (.tuple #[.agg #[.string ⟨#[]⟩, .int .i64 0, .slice none 0 0], .int .i64 e])) w') := fun e he w' hg => h0 e he _ _ _ _ _ w' hg
  have YS := Lib.hid h1
  have HBB := Lib.hid hB
  have HT := Lib.hid hT
  have GE := Lib.hid fun W (hg : Grow w W) (R : Ending → World → Prop) hR => rget_any b bv _ W (hb.gr2 (by decide) hg) hB.len (R := R) hR
  obtain ⟨B1, B2, B3, hbv⟩ := hb.form
  subst hbv
  clear h0 h1 hB hb hT
  have BF := Lib.hid (BoxH.laid #[.string ⟨#[]⟩, .int .i64 0, .slice none 0 0] 27 (Grow.refl w))
  have G0 := Lib.hid BF.out.grow
  go_enter Tryd.func46, Tryd.ntmps46
  go_wp2_with fail
  generalize w.alloc (.cells #[.string ⟨#[]⟩, .int .i64 0, .slice none 0 0] 27) = wa at *
  obtain ⟨p2, hp2⟩ : ∃ p, w.heap.size = p := ⟨_, rfl⟩
  rw [hp2] at BF
  rw [hp2]
  have P2 : Hid (w.heap.size ≤ p2) := by show _ ≤ _; omega
  clear hp2
  go_at_call 45
  refine GE.out _ G0.out _ ?_
  intro r fs w1 hO hF hfs hg1
  have BF1 := Lib.hid (BF.out.tr hg1)
  have FL : Hid (Flds w1 (fun _ => True) r fs) := ⟨(Rd.own hO).into fun _ _ => trivial, fun f hf => ⟨(hF f hf).1, (hF f hf).2.1, (hF f hf).2.2.1, (hF f hf).2.2.2.into fun _ _ => trivial⟩⟩
  have HFS := Lib.hid hfs
  obtain ⟨F1, F2, rfl⟩ := own_slice hO
  clear hg1 hO hF hfs G0 GE BF
  by_cases he : (get b).2 = 0
  · have t1 : ((get b).2 != 0) = false := by simp [he]
    have PN : Hid (∀ f ∈ fs, 0 ≤ f.num) := fun f hf => by
      have := get_num1 b f.fd (by rw [← HFS.out]; exact List.mem_map.2 ⟨f, hf, rfl⟩)
      show 0 ≤ f.fd.num
      omega
    have CN : fs.length ≤ 1000000 := by have := HBB.out.cnt; rw [← HFS.out, List.length_map] at this; exact this
    have HE := Lib.hid he
    have OA := Lib.hid fun n (R : Ending → World → Prop) => one_any fs (.slice F1 fs.length F2) n _ w1 FL.out CN (R := R)
    have BAD : Hid (onceL (get b).1 = false ∨ numF (get b).1 1 = [] ∨ intF (get b).1 15 1 < 1 ∨ 2 < intF (get b).1 15 1 → ∀ w', Grow w w' → R (.returned (.tuple #[.agg #[.string ⟨#[]⟩, .int .i64 0, .slice none 0 0], .int .i64 3])) w') := fun h => NO.out 3 (getLy_bad he h)
    clear he
    go_wp2_with fail
    go_at_call 78
    refine OA.out _ _ ?_
    go_wp2_with fail
    go_at_call 78
    refine OA.out _ _ ?_
    go_wp2_with fail
    go_at_call 78
    refine OA.out _ _ ?_
    have KA := Lib.hid fun (R : Ending → World → Prop) => kinds_any fs (.slice F1 fs.length F2) ⟨#[32, 98, 98, 98, 98, 118, 32, 32, 32, 32, 32, 32, 32, 32, 32, 118]⟩ _ w1 FL.out CN PN.out (R := R)
    have eK : (⟨#[32, 98, 98, 98, 98, 118, 32, 32, 32, 32, 32, 32, 32, 32, 32, 118]⟩ : ByteArray).data.toList = [32, 98, 98, 98, 98, 118, 32, 32, 32, 32, 32, 32, 32, 32, 32, 118] := rfl
    rw [eK] at KA
    clear eK
    have KO := onceL_split (l := (get b).1)
    have KL := kinds_L PN.out
    rw [HFS.out] at KL
    rw [← KL] at KO
    clear KL OA
    generalize kindsB [32, 98, 98, 98, 98, 118, 32, 32, 32, 32, 32, 32, 32, 32, 32, 118] fs = kb at *
    rcases pickA HFS.out 1 with ⟨e1, e2⟩ | ⟨j1, hj1, e1, e2⟩ | ⟨e1, e2⟩
    · rw [e2]
      have FIN := Lib.hid (BAD.out (.inr (.inl e1)))
      clear KA KO YS HBB FL HFS HT PN NO BAD
      have BF := BF1
      -- BF : the box of the layer at the world of the goal; FIN : the error
      have BZ := Lib.hid (BF.out.row (cs' := #[.string ⟨#[]⟩, .int .i64 0, .slice none 0 0]))
      go_upto_region 6 with fail
      repeat (first | ((with_reducible refine at_st ?_); refine wpList_store_row rfl 27 _ _ rfl p2 #[.string ⟨#[]⟩, .int .i64 0, .slice none 0 0] rfl rfl 27 _ BF.out.2.2 (by kernel_rfl) rfl (by simp [Value.oneCell']) ?_) | go_values | go_skip | go_guarded | go_step | go_upon)
      refine bodyPost_ret (results_ct rfl _ _ p2 _ _ (0, 0) _ rfl BZ.out.2.2 rfl rfl Tryd.underlying27 (by kernel_rfl)) rfl ?_
      exact FIN.out _ BZ.out.grow
    · have c1 : (numF (get b).1 1).length ≤ 1 := by rw [e1]; simp
      have t2 : ¬ (j1 : Int) < 0 := by omega
      rw [e2]
      by_cases h5 : oneF fs 5 = -2
      · have FIN := Lib.hid (BAD.out (.inl (onceL_two (.inr (.inl rfl)) (by rw [← HFS.out]; exact one_two h5))))
        rw [h5]
        clear KA KO YS HBB FL HFS HT PN NO BAD
        have BF := BF1
        -- BF : the box of the layer at the world of the goal; FIN : the error
        have BZ := Lib.hid (BF.out.row (cs' := #[.string ⟨#[]⟩, .int .i64 0, .slice none 0 0]))
        go_upto_region 6 with fail
        repeat (first | ((with_reducible refine at_st ?_); refine wpList_store_row rfl 27 _ _ rfl p2 #[.string ⟨#[]⟩, .int .i64 0, .slice none 0 0] rfl rfl 27 _ BF.out.2.2 (by kernel_rfl) rfl (by simp [Value.oneCell']) ?_) | go_values | go_skip | go_guarded | go_step | go_upon)
        refine bodyPost_ret (results_ct rfl _ _ p2 _ _ (0, 0) _ rfl BZ.out.2.2 rfl rfl Tryd.underlying27 (by kernel_rfl)) rfl ?_
        exact FIN.out _ BZ.out.grow
      · have t5 : (oneF fs 5 == -2) = false := by simp [h5]
        have c5 := one_le HFS.out h5
        have K5 := Lib.hid ((pickA HFS.out 5).imp_right (Or.resolve_right · fun h => h5 h.2))
        by_cases h15 : oneF fs 15 = -2
        · have FIN := Lib.hid (BAD.out (.inl (onceL_two (.inr (.inr rfl)) (by rw [← HFS.out]; exact one_two h15))))
          rw [h15]
          generalize oneF fs 5 = a5 at *
          clear K5
          clear KA KO YS HBB FL HFS HT PN NO BAD h5 c5
          have BF := BF1
          -- BF : the box of the layer at the world of the goal; FIN : the error
          have BZ := Lib.hid (BF.out.row (cs' := #[.string ⟨#[]⟩, .int .i64 0, .slice none 0 0]))
          go_upto_region 6 with fail
          repeat (first | ((with_reducible refine at_st ?_); refine wpList_store_row rfl 27 _ _ rfl p2 #[.string ⟨#[]⟩, .int .i64 0, .slice none 0 0] rfl rfl 27 _ BF.out.2.2 (by kernel_rfl) rfl (by simp [Value.oneCell']) ?_) | go_values | go_skip | go_guarded | go_step | go_upon)
          refine bodyPost_ret (results_ct rfl _ _ p2 _ _ (0, 0) _ rfl BZ.out.2.2 rfl rfl Tryd.underlying27 (by kernel_rfl)) rfl ?_
          exact FIN.out _ BZ.out.grow
        · have t15 : (oneF fs 15 == -2) = false := by simp [h15]
          have c15 := one_le HFS.out h15
          have K15 := Lib.hid ((pickA HFS.out 15).imp_right (Or.resolve_right · fun h => h15 h.2))
          have KP : onceL (get b).1 = kb := by
            rw [KO]
            have e : ([(1 : Int), 5, 15].all fun n => decide ((numF (get b).1 n).length ≤ 1)) = true := by
              simp only [List.all_cons, List.all_nil, Bool.and_true, Bool.and_eq_true, decide_eq_true_eq]
              exact ⟨c1, c5, c15⟩
            rw [e, Bool.true_and]
          clear KO c1 c5 c15 h5 h15
          generalize oneF fs 5 = a5 at *
          generalize oneF fs 15 = a15 at *
          go_wp2_with fail
          go_at_call 79
          refine KA.out _ ?_
          cases kb with
          | false =>
            have FIN := Lib.hid (BAD.out (.inl KP))
            clear KA YS HBB FL HFS HT PN NO BAD KP K5 K15
            have BF := BF1
            -- BF : the box of the layer at the world of the goal; FIN : the error
            have BZ := Lib.hid (BF.out.row (cs' := #[.string ⟨#[]⟩, .int .i64 0, .slice none 0 0]))
            go_upto_region 6 with fail
            repeat (first | ((with_reducible refine at_st ?_); refine wpList_store_row rfl 27 _ _ rfl p2 #[.string ⟨#[]⟩, .int .i64 0, .slice none 0 0] rfl rfl 27 _ BF.out.2.2 (by kernel_rfl) rfl (by simp [Value.oneCell']) ?_) | go_values | go_skip | go_guarded | go_step | go_upon)
            refine bodyPost_ret (results_ct rfl _ _ p2 _ _ (0, 0) _ rfl BZ.out.2.2 rfl rfl Tryd.underlying27 (by kernel_rfl)) rfl ?_
            exact FIN.out _ BZ.out.grow
          | true =>
            have KP := Lib.hid KP
            clear KA
            generalize hver : intF (get b).1 15 1 = ver at *
            go_upto_region 7 with fail
            go_cut [8, 66] from 18 (fun v8 v wx => v8 = .int .i64 a15 ∧ v = .bool (decide (ver < 1 ∨ 2 < ver)) ∧ wx = w1)
            case first =>
              clear YS BAD NO K5
              rcases K15.out with ⟨g1, g2⟩ | ⟨j15, hj15, g1, g2⟩
              · have v1 : ver = 1 := by rw [← hver]; unfold intF; rw [g1]
                subst v1
                have G2 := Lib.hid g2
                rw [g2]
                clear hver g1 g2
                go_wp2
                go_meet
                case rel => exact ⟨by rw [G2.out], by simp, rfl⟩
              · have v1 : ver = fs[j15].int := by rw [← hver]; unfold intF; rw [g1]; rfl
                obtain ⟨b1, o1, rfl, -, -, d2, -⟩ := fld_cells FL.out hj15
                rw [← v1] at d2
                have G2 := Lib.hid g2
                rw [g2]
                clear hver g1 g2 v1
                by_cases h1 : ver < 1
                · have e : Hid (decide (ver < 1 ∨ 2 < ver) = true) := by show _ = _; simp [h1]
                  go_wp2
                  go_meet
                  case rel => exact ⟨by rw [G2.out], by rw [e.out], rfl⟩
                · have e : Hid (decide (ver < 1 ∨ 2 < ver) = decide (2 < ver)) := by show _ = _; simp [h1]
                  by_cases h2 : 2 < ver
                  all_goals
                    go_wp2
                    go_meet
                    case rel => exact ⟨by rw [G2.out], by congr 1; rw [Bool.eq_iff_iff]; simp; omega, rfl⟩
            case rest =>
              obtain ⟨rfl, rfl, rfl⟩ := hcut
              by_cases hv : ver < 1 ∨ 2 < ver
              · have FIN := Lib.hid (BAD.out (.inr (.inr hv)))
                have e : decide (ver < 1 ∨ 2 < ver) = true := by simp only [hv, decide_true]
                rw [e]
                clear YS HBB FL HFS HT PN NO BAD KP K5 K15 e hv hver
                have BF := BF1
                -- BF : the box of the layer at the world of the goal; FIN : the error
                have BZ := Lib.hid (BF.out.row (cs' := #[.string ⟨#[]⟩, .int .i64 0, .slice none 0 0]))
                go_upto_region 8 with fail
                repeat (first | ((with_reducible refine at_st ?_); refine wpList_store_row rfl 27 _ _ rfl p2 #[.string ⟨#[]⟩, .int .i64 0, .slice none 0 0] rfl rfl 27 _ BF.out.2.2 (by kernel_rfl) rfl (by simp [Value.oneCell']) ?_) | go_values | go_skip | go_guarded | go_step | go_upon)
                refine bodyPost_ret (results_ct rfl _ _ p2 _ _ (0, 0) _ rfl BZ.out.2.2 rfl rfl Tryd.underlying27 (by kernel_rfl)) rfl ?_
                exact FIN.out _ BZ.out.grow
              · have e : decide (ver < 1 ∨ 2 < ver) = false := by simp only [hv, decide_false]
                rw [e]
                have GL := Lib.hid (getLy_two HE.out KP.out e1 (by rw [hver]; exact hv))
                clear e hv hver K15 BAD KP
                obtain ⟨b1, o1, rfl, -, -, -, d3⟩ := fld_cells FL.out hj1
                have RD := Lib.hid ((FL.out.2 fs[j1] (List.getElem_mem hj1)).2.2.2)
                have DL : Hid (fs[j1].fd.data.length ≤ 1000000000000) := (HBB.out.dat fs[j1].fd (by rw [← HFS.out]; exact List.mem_map.2 ⟨_, List.getElem_mem hj1, rfl⟩)).1
                have e3 : fs[j1].fd.data = fs[j1].data := rfl
                rw [e3] at GL DL
                clear e1 e3 e2
                generalize fs[j1].dv = dv at *
                generalize fs[j1].data = d1 at *
                obtain ⟨X1, X2, X3, rfl⟩ := RD.out.form
                have cv := str_u8 RD.out
                go_upto_if 76 with fail
                have NE : Hid (p2 < wc.heap.size) := BF1.out.lt
                have BX := Lib.hid (BoxH.laid #[.string ⟨d1.toArray⟩, .int .i64 4096, .slice none 0 0] 27 BF1.out.grow)
                have BF2 := Lib.hid (BF1.out.tr ((Grow.refl wc).al (.cells #[.string ⟨d1.toArray⟩, .int .i64 4096, .slice none 0 0] 27)))
                have FL2 := Lib.hid (FL.out.low.gr ((Grow.refl wc).al (.cells #[.string ⟨d1.toArray⟩, .int .i64 4096, .slice none 0 0] 27)))
                clear FL BF1 RD cv d3
                generalize wc.alloc (.cells #[.string ⟨d1.toArray⟩, .int .i64 4096, .slice none 0 0] 27) = w2 at *
                generalize wc.heap.size = p9 at *
                obtain ⟨me, hme⟩ : ∃ me : Nat, min (intF (get b).1 5 4096) 65537 = me := ⟨_, rfl⟩
                rw [hme] at GL
                have ME : me ≤ 65537 := by omega
                go_cut [7] from 18 (fun v wx => v = .int .i64 a5 ∧ Hid (BoxH w p2 #[.string ⟨#[]⟩, .int .i64 0, .slice none 0 0] 27 wx ∧ BoxH w p9 #[.string ⟨d1.toArray⟩, .int .i64 (me : Int), .slice none 0 0] 27 wx ∧ Flds wx (· < p9) (.slice (some ⟨b1, o1, none⟩) fs.length F2) fs))
                case first =>
                  clear YS NO GL
                  rcases K5.out with ⟨g1, g2⟩ | ⟨j5, hj5, g1, g2⟩
                  · have v1 : me = 4096 := by rw [← hme]; unfold intF; rw [g1]; rfl
                    subst v1
                    have G2 := Lib.hid g2
                    rw [g2]
                    clear hme g1 g2
                    go_wp2
                    go_meet
                    case rel => exact ⟨by rw [G2.out], BF2.out, BX.out, FL2.out⟩
                  · have v1 : me = min fs[j5].int 65537 := by rw [← hme]; unfold intF; rw [g1]; rfl
                    obtain ⟨b2, o2, e9, -, -, d2, -⟩ := fld_cells FL2.out hj5
                    injection e9 with e9
                    injection e9 with e9 e10
                    subst e9 e10
                    have NB : ¬ b1 = p9 := by
                      have := fld_blk (S := (· < p9)) FL2.out (Nat.lt_of_le_of_lt (Nat.zero_le _) hj5)
                      omega
                    generalize fs[j5].int = i5 at *
                    have x1 := BX.out.cell 1
                    have x1f := BX.out.free 1
                    have BF3 := Lib.hid (BF2.out.other (j := 1) (v := .int .i64 65537) (by have := NE.out; omega) BX.out.2.1)
                    have BX3 := Lib.hid (BX.out.set 1 (.int .i64 65537))
                    have FL3 := Lib.hid (FL2.out.tn (Tn_set w2 p9 1 (.int .i64 65537)) fun b hb e => by omega)
                    have x3 := BX3.out.cell 1
                    have x3f := BX3.out.free 1
                    have BF4 := Lib.hid (BF3.out.other (j := 1) (v := .int .i64 (i5 : Int)) (by have := NE.out; omega) BX3.out.2.1)
                    have BX4 := Lib.hid (BX3.out.set 1 (.int .i64 (i5 : Int)))
                    have FL4 := Lib.hid (FL3.out.tn (Tn_set _ p9 1 (.int .i64 (i5 : Int))) fun b hb e => by omega)
                    have G2 := Lib.hid g2
                    rw [g2]
                    clear hme g1 g2
                    by_cases h5 : i5 ≤ 65536
                    · obtain rfl : me = i5 := by omega
                      clear v1
                      go_wp2
                      go_meet
                      case rel => exact ⟨by rw [G2.out], BF4.out, BX4.out, FL4.out⟩
                    · obtain rfl : me = 65537 := by omega
                      clear v1
                      go_wp2
                      go_meet
                      case rel => exact ⟨by rw [G2.out], BF3.out, BX3.out, FL3.out⟩
                case rest =>
                  obtain ⟨rfl, hE⟩ := hcut
                  have R0 : Hid (RK w wc p2 p9 fs (.slice (some ⟨b1, o1, none⟩) fs.length F2) #[.string ⟨d1.toArray⟩, .int .i64 (me : Int), .slice none 0 0] (.slice none 0 0) (.slice none 0 0) [] [] wc) :=
                    ⟨NE.out, hE.out.2.1.lt, Nat.le_refl _, hE.out.1, hE.out.2.1, hE.out.2.2, World.ownsRow_nil _ _ _ _, World.ownsRow_nil _ _ _ _⟩
                  clear hE BX BF2 FL2 K5 hme NE
                  generalize wc = w5 at *
                  go_wp2_with fail
                  go_loopw [12, 10, 11] (fun i kv vv wr => ∃ k : Nat, k ≤ fs.length ∧ i = .int .i64 k ∧ Hid (∃ V, RK w w5 p2 p9 fs (.slice (some ⟨b1, o1, none⟩) fs.length F2) #[.string ⟨d1.toArray⟩, .int .i64 (me : Int), .slice none 0 0] kv vv (keysF ((fs.take k).map Fld.fd)) V wr ∧ mapE valE ((numF ((fs.take k).map Fld.fd) 4).map FD.data) = .ok V)) (fun i _ _ _ => fs.length - (intOf i).toNat)
                  case atStart => exact ⟨0, Nat.zero_le _, rfl, [], R0.out, rfl⟩
                  case round =>
                    clear R0
                    obtain ⟨k, hk, rfl, hls⟩ := hrel
                    obtain ⟨V, hl, hv⟩ := hls.out
                    clear hls
                    by_cases hlt : k < fs.length
                    · obtain ⟨b2, o2, e9, d0, -, -, d3⟩ := fld_cells hl.fl hlt
                      injection e9 with e9
                      injection e9 with e9 e10
                      subst e9 e10
                      have NX := Lib.hid (hl.fl.2 fs[k] (List.getElem_mem hlt))
                      have NB := Lib.hid (HBB.out.dat fs[k].fd (by rw [← HFS.out]; exact List.mem_map.2 ⟨_, List.getElem_mem hlt, rfl⟩))
                      have MT := Lib.hid (mapE_take valE hlt hv)
                      have KT := keysF_take hlt
                      have LK := keysF_le ((fs.take k).map Fld.fd)
                      have LV := valE_len hv
                      rw [List.length_map, List.length_take_of_le hk] at LK LV
                      have HL := Lib.hid hl
                      have HV := Lib.hid hv
                      clear hl hv
                      generalize hx0 : fs[k] = x at *
                      have HX0 := Lib.hid hx0
                      clear hx0
                      generalize keysF ((fs.take k).map Fld.fd) = K at *
                      obtain ⟨xn, xk, xi, xd, xv⟩ := x
                      obtain ⟨X1, X2, X3, hx1⟩ := Rd.form NX.out.2.2.2
                      dsimp only at hx1
                      subst hx1
                      dsimp only at KT d0 d3
                      have LK := Lib.hid LK
                      have LV := Lib.hid LV
                      have RX : Hid (Rd wr (· < p9) 1 (.slice X1 X2 X3) xd.length (U8 xd)) := NX.out.2.2.2
                      have HN : Hid (I64 xn) := NX.out.1
                      clear NX
                      obtain ⟨K1, K3, rfl⟩ := own_slice HL.out.ok
                      obtain ⟨V1, V3, rfl⟩ := own_slice HL.out.ov
                      by_cases h3 : xn = 3
                      · subst h3
                        rw [if_pos rfl] at KT
                        have KT := Lib.hid KT
                        have MU := Lib.hid (MT.out.1 (by simp))
                        have cv := str_u8 RX.out
                        clear MT
                        go_wp2_with (at_builtin; refine wpList_put rfl _ _ rfl el_str HL.out.ok rfl 1 _ rfl _ rfl (by decide) rfl (by simp [Value.oneCell']) (by have := LK.out; omega) HL.out.o4 ?_; intro v2 w2 hown2 hgr2 hb2; have HL2 := Lib.hid (HL.out.key (K' := keysF ((fs.take (k + 1)).map Fld.fd)) hgr2 (own_eq hown2 (by rw [KT.out]; simp) (by rw [KT.out]; simp [strs]))); obtain ⟨b3, o3, e9, y0, -, -, -⟩ := fld_cells HL2.out.fl hlt; injection e9 with e9; injection e9 with e9 e10; subst e9 e10; rw [HX0.out] at y0; dsimp only at y0; clear hown2 hgr2 hb2)
                        go_roundw
                        case rel => exact ⟨k + 1, by omega, by go_num, V, HL2.out, MU.out⟩
                        case measure => simp [intOf]; omega
                      · rw [if_neg h3, List.append_nil] at KT
                        have KT := Lib.hid KT
                        have t3 : (xn == 3) = false := by simp [h3]
                        by_cases h4 : xn = 4
                        · subst h4
                          have MU := Lib.hid (MT.out.2 rfl)
                          have NC := Lib.hid (NB.out.2.1 rfl)
                          clear MT NB
                          dsimp only at MU
                          obtain ⟨q, hq⟩ : ∃ q, getS xd = q := ⟨_, rfl⟩
                          obtain ⟨⟨vk, vt, vb⟩, e⟩ := q
                          have VG : Hid (∀ R, (∀ w', Grow wr w' → R (.returned (.tuple #[.agg #[.int .i64 vk, .string vt, .int .u64 vb], .int .i64 e])) w') → Calls Tryd.prog 80 #[.slice X1 X2 X3] wr R) := fun R hR => rvget_any xd _ _ wr RX.out NC.out (HT.out.gr HL.out.bf.grow) fun w' hg => by have := hR w' hg; rw [hq]; exact this
                          have HQ := Lib.hid hq
                          clear hq
                          go_wp2_with fail
                          go_at_call 80
                          refine VG.out _ ?_
                          intro w4 hg4
                          have HM := Lib.hid ((HL.out.gr hg4).gr ((Grow.refl w4).al (.cells #[.int .i64 vk, .string vt, .int .u64 vb] 37)))
                          clear VG RX HL d0 d3
                          by_cases he : e = 0
                          · subst he
                            have MT := Lib.hid (MU.out.2 ⟨vk, vt, vb⟩ (by unfold valE; rw [HQ.out]; rfl))
                            have BV := Lib.hid (BoxH.laid #[.int .i64 vk, .string vt, .int .u64 vb] 37 (Grow.refl w4))
                            clear HQ hg4 NO YS
                            go_upto_region 25 with fail
                            generalize w4.alloc (.cells #[.int .i64 vk, .string vt, .int .u64 vb] 37) = wv at *
                            generalize w4.heap.size = p13 at *
                            go_wp2_with (first | ((with_reducible refine at_ld ?_); refine wpList_load_row rfl 37 _ rfl p13 rfl 37 _ (0, 0) _ BV.out.2.2 Tryd.underlying37 rfl (by kernel_rfl) ?_) | (at_builtin; refine wpList_put rfl _ _ rfl el_val HM.out.ov rfl 1 _ rfl _ rfl (by decide) rfl (by simp [Value.oneCell']) (by have := LV.out; omega) HM.out.o4 ?_; intro v2 w2 hown2 hgr2 hb2; have HL2 := Lib.hid (HM.out.val (V' := V ++ [⟨vk, vt, vb⟩]) hgr2 (own_eq hown2 (by simp) (by simp [Vals, Val.cells]))); clear hown2 hgr2 hb2 HM))
                            go_roundw
                            case rel => exact ⟨k + 1, by omega, by go_num, _, by rw [KT.out]; exact HL2.out, MT.out⟩
                            case measure => simp [intOf]; omega
                          · have t1 : (e != 0) = true := by simp [he]
                            have FIN := Lib.hid (NO.out e (GL.out.1 e (by rw [← HFS.out]; exact MU.out.1 e (by unfold valE; rw [HQ.out]; exact if_pos he))))
                            have BF := Lib.hid HM.out.bf
                            clear HQ hg4 NO YS MU GL HM HBB HFS HV HT KT
                            -- BF : the box of the layer at the world of the goal; FIN : the error
                            have BZ := Lib.hid (BF.out.row (cs' := #[.string ⟨#[]⟩, .int .i64 0, .slice none 0 0]))
                            go_upto_region 24 with fail
                            repeat (first | ((with_reducible refine at_st ?_); refine wpList_store_row rfl 27 _ _ rfl p2 #[.string ⟨#[]⟩, .int .i64 0, .slice none 0 0] rfl rfl 27 _ BF.out.2.2 (by kernel_rfl) rfl (by simp [Value.oneCell']) ?_) | go_values | go_skip | go_guarded | go_step | go_upon)
                            refine bodyPost_ret (results_ct rfl _ _ p2 _ _ (0, 0) _ rfl BZ.out.2.2 rfl rfl Tryd.underlying27 (by kernel_rfl)) rfl ?_
                            exact FIN.out _ BZ.out.grow
                        · have MU := Lib.hid (MT.out.1 h4)
                          have t4 : (xn == 4) = false := by simp [h4]
                          go_wp2
                          go_roundw
                          case rel => exact ⟨k + 1, by omega, by go_num, _, by rw [KT.out]; exact HL.out, MU.out⟩
                          case measure => simp [intOf]; omega
                    · obtain rfl : k = fs.length := by omega
                      rw [List.take_length, HFS.out] at hl hv
                      have VK : Hid (∀ v ∈ V, VOk v) := fun v hv' => by
                        obtain ⟨d, hd, e⟩ := (mapE_len _ _ hv).2 v hv'
                        obtain ⟨f, hf, rfl⟩ := List.mem_map.1 hd
                        exact valE_ok5 ((HBB.out.dat f (numF_mem f hf)).2.1 (numF_num f hf)) e
                      have KK : Hid (∀ k ∈ keysF (get b).1, k.size ≤ maxLen) := fun k hk => by
                        obtain ⟨f, hf, rfl⟩ := List.mem_map.1 hk
                        have := (HBB.out.dat f (numF_mem f hf)).1
                        show f.data.toArray.size ≤ _
                        rw [List.size_toArray]
                        unfold maxLen
                        omega
                      have GF := Lib.hid (GL.out.2 V hv)
                      have R1 : Hid (RF w w5 p2 p9 fs (.slice (some ⟨b1, o1, none⟩) fs.length F2) ⟨d1.toArray⟩ (me : Int) (.slice none 0 0) _ _ (keysF (get b).1) V [] wr) := ⟨hl, World.ownsRow_nil _ _ _ _, by simp, by simp⟩
                      generalize keysF (get b).1 = K at *
                      obtain ⟨K1, K3, rfl⟩ := own_slice hl.ok
                      obtain ⟨V1, V3, rfl⟩ := own_slice hl.ov
                      clear hl hv hk hlt GL HT
                      go_wp2_with fail
                      go_loopw [15] (fun i wr => ∃ k : Nat, k ≤ fs.length ∧ i = .int .i64 k ∧ Hid (∃ fv F, RF w w5 p2 p9 fs (.slice (some ⟨b1, o1, none⟩) fs.length F2) ⟨d1.toArray⟩ (me : Int) fv (.slice K1 K.length K3) (.slice V1 V.length V3) K V F wr ∧ mapE (getF K V) ((numF ((fs.take k).map Fld.fd) 2).map FD.data) = .ok (F.map FtR.pl))) (fun i _ => fs.length - (intOf i).toNat)
                      case atStart => exact ⟨0, Nat.zero_le _, rfl, _, [], R1.out, rfl⟩
                      case round =>
                        clear R1
                        obtain ⟨k, hk, rfl, hls⟩ := hrel
                        obtain ⟨fv, F, hl, hv⟩ := hls.out
                        clear hls
                        by_cases hlt : k < fs.length
                        · obtain ⟨b2, o2, e9, d0, -, -, d3⟩ := fld_cells hl.rk.fl hlt
                          injection e9 with e9
                          injection e9 with e9 e10
                          subst e9 e10
                          have NX := Lib.hid (hl.rk.fl.2 fs[k] (List.getElem_mem hlt))
                          have NB := Lib.hid (HBB.out.dat fs[k].fd (by rw [← HFS.out]; exact List.mem_map.2 ⟨_, List.getElem_mem hlt, rfl⟩))
                          have MT := Lib.hid (mapE_take (getF K V) hlt hv)
                          have LN : Hid (F.length ≤ k) := by
                            have h := (mapE_len _ _ hv).1
                            have h2 : (numF ((fs.take k).map Fld.fd) 2).length ≤ _ := List.length_filter_le _ _
                            simp only [List.length_map, List.length_take_of_le hk] at h h2
                            show _ ≤ _
                            omega
                          have HM := Lib.hid hl
                          clear hl hv
                          generalize fs[k] = x at *
                          obtain ⟨xn, xk, xi, xd, xv⟩ := x
                          obtain ⟨X1, X2, X3, hx1⟩ := Rd.form NX.out.2.2.2
                          dsimp only at hx1
                          subst hx1
                          dsimp only at d0 d3
                          have RX : Hid (Rd wr (· < p9) 1 (.slice X1 X2 X3) xd.length (U8 xd)) := NX.out.2.2.2
                          have HN : Hid (I64 xn) := NX.out.1
                          clear NX
                          obtain ⟨F1, F3, rfl⟩ := own_slice HM.out.fo
                          by_cases h2 : xn = 2
                          · subst h2
                            have MU := Lib.hid (MT.out.2 rfl)
                            clear MT
                            dsimp only at MU
                            have FA : Hid (∀ R, (∀ e, getF K V xd = .error e → ∀ w', Grow wr w' → R (.returned (.tuple #[.agg #[.bool false, .int .u64 0, .int .i64 0, .slice none 0 0, .slice none 0 0], .int .i64 e])) w') →
                                (∀ h id ty A n c B m d AA BB w', getF K V xd = .ok (FtR.pl ⟨⟨h, id, ty, .slice A n c, .slice B m d⟩, AA, BB⟩) → FtR.rd ⟨⟨h, id, ty, .slice A n c, .slice B m d⟩, AA, BB⟩ w' (fun b => wr.heap.size ≤ b) → FtR.ok ⟨⟨h, id, ty, .slice A n c, .slice B m d⟩, AA, BB⟩ → Grow wr w' → R (.returned (.tuple #[.agg #[.bool h, .int .u64 id, .int .i64 ty, .slice A n c, .slice B m d], .int .i64 0])) w') →
                                Calls Tryd.prog 81 #[.slice X1 X2 X3, .slice K1 K.length K3, .slice V1 V.length V3] wr R) := fun R h0 h1 =>
                              rfeature_any K V xd _ _ _ _ _ _ wr (Rd.own HM.out.rk.ok) (Rd.own HM.out.rk.ov) RX.out (NB.out.2.2 rfl) (fun v hv => (VK.out v hv).1) KK.out (fun v hv => (VK.out v hv).2) h0
                                (fun x w' he hr hk hg => by
                                  obtain ⟨A, n, c, B, m, d, e1, e2⟩ := hr.fm
                                  obtain ⟨⟨h, id, ty, pv, av⟩, AA, BB⟩ := x
                                  dsimp only at e1 e2
                                  subst e1 e2
                                  exact h1 h id ty A n c B m d AA BB w' he hr hk hg)
                            go_wp2_with fail
                            go_at_call 81
                            refine FA.out _ ?_ ?_
                            · intro e hge w4 hg4
                              have he := getF_err hge
                              have t1 : (e != 0) = true := by simp [he]
                              have FIN := Lib.hid (NO.out e (GF.out.1 e (by rw [← HFS.out]; exact MU.out.1 e hge)))
                              have BF := Lib.hid ((HM.out.gr hg4).gr ((Grow.refl w4).al (.cells #[.bool false, .int .u64 0, .int .i64 0, .slice none 0 0, .slice none 0 0] 53))).rk.bf
                              clear FA hg4 NO YS MU GF HM HBB HFS RX d0 d3 he hge
                              -- BF : the box of the layer at the world of the goal; FIN : the error
                              have BZ := Lib.hid (BF.out.row (cs' := #[.string ⟨#[]⟩, .int .i64 0, .slice none 0 0]))
                              go_upto_region 32 with fail
                              repeat (first | ((with_reducible refine at_st ?_); refine wpList_store_row rfl 27 _ _ rfl p2 #[.string ⟨#[]⟩, .int .i64 0, .slice none 0 0] rfl rfl 27 _ BF.out.2.2 (by kernel_rfl) rfl (by simp [Value.oneCell']) ?_) | go_values | go_skip | go_guarded | go_step | go_upon)
                              refine bodyPost_ret (results_ct rfl _ _ p2 _ _ (0, 0) _ rfl BZ.out.2.2 rfl rfl Tryd.underlying27 (by kernel_rfl)) rfl ?_
                              exact FIN.out _ BZ.out.grow
                            · intro h id ty A n c B m' d AA BB w4 hge hr hk' hg4
                              have HX := Lib.hid ((RF.fresh HM.out hr (Nat.le_refl _)).gr ((Grow.refl w4).al (.cells #[.bool h, .int .u64 id, .int .i64 ty, .slice A n c, .slice B m' d] 53)))
                              have HM2 := Lib.hid ((HM.out.gr hg4).gr ((Grow.refl w4).al (.cells #[.bool h, .int .u64 id, .int .i64 ty, .slice A n c, .slice B m' d] 53)))
                              have BV := Lib.hid (BoxH.laid #[.bool h, .int .u64 id, .int .i64 ty, .slice A n c, .slice B m' d] 53 (Grow.refl w4))
                              have HK := Lib.hid hk'
                              have MU2 := Lib.hid (MU.out.2 _ hge)
                              clear FA hg4 NO YS MU hge hr hk' HM RX NB d0 d3
                              go_upto_region 33 with fail
                              generalize w4.alloc (.cells #[.bool h, .int .u64 id, .int .i64 ty, .slice A n c, .slice B m' d] 53) = w5' at *
                              generalize w4.heap.size = p16 at *
                              have y1 := cell_of_row _ _ 2 _ _ _ HM2.out.rk.bx.2.2
                              go_wp2_with (first | ((with_reducible refine at_ld ?_); refine wpList_load_row rfl 53 _ rfl p16 rfl 53 _ (0, 0) _ BV.out.2.2 Tryd.underlying53 rfl (by kernel_rfl) ?_) | (at_builtin; refine wpList_put rfl _ _ rfl el_ft HM2.out.fo rfl 1 _ rfl _ rfl (by decide) rfl (by simp [Value.oneCell']) (by have := LN.out; omega) HM2.out.rk.o4 ?_; intro v2 w2 hown2 hgr2 hb2; obtain ⟨A2, c2, rfl⟩ := own_slice hown2; have HL2 := Lib.hid (HM2.out.feat (x := ⟨⟨h, id, ty, .slice A n c, .slice B m' d⟩, AA, BB⟩) hgr2 (own_eq hown2 (by simp) (by simp [Fts, FtR.cells, Ft.cells])) (Nat.le_succ _) hb2 HX.out HK.out); have b2 := (Tn.by_ (D := fun j => (Value.slice F1 F.length F3).ownBlock = some j) hgr2 fun _ e => e).blk HM2.out.rk.bx.2.2 (own_ne_box HM2.out.fo HM2.out.rk.bx.2.2 (by decide)); have y2 := cell_of_row _ _ 2 _ _ _ b2; have f2 := frozen_of_row _ _ 2 _ _ b2; clear b2 hown2 hgr2 hb2 HM2 y1))
                              go_roundw
                              case rel => exact ⟨k + 1, by omega, by go_num, _, _, HL2.out, by rw [MU2.out, List.map_append]; rfl⟩
                              case measure => simp [intOf]; omega
                          · have MU := Lib.hid (MT.out.1 h2)
                            clear MT
                            have t1 : (xn == 2) = false := by simp [h2]
                            go_wp2
                            go_roundw
                            case rel => exact ⟨k + 1, by omega, by go_num, _, _, HM.out, MU.out⟩
                            case measure => simp [intOf]; omega
                        · obtain rfl : k = fs.length := by omega
                          rw [List.take_length, HFS.out] at hv
                          have FIN := Lib.hid fun w' => YS.out ⟨⟨d1.toArray⟩, (me : Int), fv, F⟩ w' (GF.out.2 _ hv)
                          have XR : Hid (LyR.rd ⟨⟨d1.toArray⟩, (me : Int), fv, F⟩ wr (fun b => w.heap.size ≤ b ∧ b ≠ p2)) := (RF.lyr hl).into fun b hb => by
                            have := hl.rk.o1
                            have := hl.rk.o3
                            have := hl.rk.bf.2.1
                            omega
                          have XO : Hid (LyR.ok ⟨⟨d1.toArray⟩, (me : Int), fv, F⟩) := ⟨by
                            show d1.toArray.size ≤ _
                            have := DL.out
                            rw [List.size_toArray]
                            unfold maxLen
                            omega, by unfold I64; show _ ≤ (me : Int) ∧ (me : Int) ≤ _; omega, hl.ok⟩
                          have BX := Lib.hid hl.rk.bx
                          have BF := Lib.hid hl.rk.bf
                          obtain ⟨F1, F3, rfl⟩ := own_slice hl.fo
                          clear hl hv hk hlt NO YS GF VK KK
                          have BZ := Lib.hid (BF.out.row (cs' := #[.string ⟨d1.toArray⟩, .int .i64 (me : Int), .slice F1 F.length F3]))
                          go_upto_region 34 with fail
                          repeat (first | ((with_reducible refine at_st ?_); refine wpList_store_row rfl 27 _ _ rfl p2 #[.string ⟨d1.toArray⟩, .int .i64 (me : Int), .slice F1 F.length F3] rfl rfl 27 _ BF.out.2.2 (by kernel_rfl) rfl (by simp [Value.oneCell']) ?_) | ((with_reducible refine at_ld ?_); refine wpList_load_row rfl 27 _ rfl p9 rfl 27 _ (0, 0) _ BX.out.2.2 Tryd.underlying27 rfl (by kernel_rfl) ?_) | go_values | go_skip | go_guarded | go_step | go_upon)
                          refine bodyPost_ret (results_ct rfl _ _ p2 _ _ (0, 0) _ rfl BZ.out.2.2 rfl rfl Tryd.underlying27 (by kernel_rfl)) rfl ?_
                          exact FIN.out _ ((XR.out.rowS fun b hb => hb.2).into fun b hb => hb.1) XO.out BZ.out.grow
    · rw [e2]
      have FIN := Lib.hid (BAD.out (.inl (onceL_two (.inl rfl) e1)))
      clear KA KO YS HBB FL HFS HT PN NO BAD
      have BF := BF1
      -- BF : the box of the layer at the world of the goal; FIN : the error
      have BZ := Lib.hid (BF.out.row (cs' := #[.string ⟨#[]⟩, .int .i64 0, .slice none 0 0]))
      go_upto_region 6 with fail
      repeat (first | ((with_reducible refine at_st ?_); refine wpList_store_row rfl 27 _ _ rfl p2 #[.string ⟨#[]⟩, .int .i64 0, .slice none 0 0] rfl rfl 27 _ BF.out.2.2 (by kernel_rfl) rfl (by simp [Value.oneCell']) ?_) | go_values | go_skip | go_guarded | go_step | go_upon)
      refine bodyPost_ret (results_ct rfl _ _ p2 _ _ (0, 0) _ rfl BZ.out.2.2 rfl rfl Tryd.underlying27 (by kernel_rfl)) rfl ?_
      exact FIN.out _ BZ.out.grow
  · have t1 : ((get b).2 != 0) = true := by simp [he]
    have FIN := Lib.hid (NO.out (get b).2 (by unfold getLy; rw [if_pos he]))
    clear NO YS HBB FL HFS he
    generalize (get b).2 = e at *
    have BF := BF1
    -- BF : the box of the layer at the world of the goal; FIN : the error
    have BZ := Lib.hid (BF.out.row (cs' := #[.string ⟨#[]⟩, .int .i64 0, .slice none 0 0]))
    go_upto_region 3 with fail
    repeat (first | ((with_reducible refine at_st ?_); refine wpList_store_row rfl 27 _ _ rfl p2 #[.string ⟨#[]⟩, .int .i64 0, .slice none 0 0] rfl rfl 27 _ BF.out.2.2 (by kernel_rfl) rfl (by simp [Value.oneCell']) ?_) | go_values | go_skip | go_guarded | go_step | go_upon)
    refine bodyPost_ret (results_ct rfl _ _ p2 _ _ (0, 0) _ rfl BZ.out.2.2 rfl rfl Tryd.underlying27 (by kernel_rfl)) rfl ?_
    exact FIN.out _ BZ.out.grow
end Go.Proofs.YtfdjdfobhkmlpaaDoor
