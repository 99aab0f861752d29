/-
  Fields of bytes, in plain Lean: messages one behind the other; what is put is got. No program is named here.
-/
import Derived.Test.YtehffeglgdcogaaDoorWGetP
namespace Go.Proofs.YtehffeglgdcogaaDoor

theorem vgo_pre (a t : List UInt8) (k : Nat) : ∀ (f i v : Nat) (x nx : Int), vgo a k f i v = (x, nx, 0) → vgo (a ++ t) k f i v = (x, nx, 0) := by
  intro f
  induction f with
  | zero => intro i v x nx h; simp [vgo] at h
  | succ f ih =>
    intro i v x nx h
    rcases Nat.lt_or_ge (k + i) a.length with hlt | hge
    · have hlt2 : k + i < (a ++ t).length := by simp; omega
      have hx : (a ++ t)[k + i].toNat = a[k + i].toNat := by rw [List.getElem_append_left hlt]
      by_cases h9 : i = 9 ∧ 1 < a[k + i].toNat
      · rw [vgo_form hlt rfl h9] at h; simp at h
      · by_cases hl : a[k + i].toNat < 128
        · rw [vgo_done hlt rfl h9 hl] at h; rw [vgo_done hlt2 hx h9 hl]; exact h
        · rw [vgo_more hlt rfl h9 hl] at h; rw [vgo_more hlt2 hx h9 hl]; exact ih _ _ _ _ h
    · rw [vgo_short hge] at h; simp at h
theorem varint_pre (a t : List UInt8) {k x nx : Int} (h : varint a k = (x, nx, 0)) : varint (a ++ t) k = (x, nx, 0) := by
  unfold varint at h ⊢
  split at h
  · simp at h
  · rename_i h1
    rw [if_neg (by simp only [List.length_append]; omega)]
    exact vgo_pre _ _ _ _ _ _ _ _ h
def sh (n : Nat) (r : Int × Int × Int) : Int × Int × Int := if r.2.2 = 0 then (r.1, r.2.1 + n, 0) else r
theorem vgo_sh (a b : List UInt8) (k : Nat) : ∀ (f i v : Nat), vgo (a ++ b) (a.length + k) f i v = sh a.length (vgo b k f i v) := by
  intro f
  induction f with
  | zero => intro i v; simp [vgo, sh]
  | succ f ih =>
    intro i v
    rcases Nat.lt_or_ge (k + i) b.length with hlt | hge
    · have hlt2 : a.length + k + i < (a ++ b).length := by simp; omega
      have hx : (a ++ b)[a.length + k + i].toNat = b[k + i].toNat := by
        rw [List.getElem_append_right (by omega)]
        simp only [show a.length + k + i - a.length = k + i by omega]
      by_cases h9 : i = 9 ∧ 1 < b[k + i].toNat
      · rw [vgo_form hlt rfl h9, vgo_form hlt2 hx h9]; simp [sh]
      · by_cases hl : b[k + i].toNat < 128
        · rw [vgo_done hlt rfl h9 hl, vgo_done hlt2 hx h9 hl]
          simp [sh]
          omega
        · rw [vgo_more hlt rfl h9 hl, vgo_more hlt2 hx h9 hl]; exact ih _ _
    · rw [vgo_short hge, vgo_short (by simp; omega)]; simp [sh]
theorem varint_sh (a b : List UInt8) (k : Nat) : varint (a ++ b) ((a.length + k : Nat) : Int) = sh a.length (varint b k) := by
  unfold varint
  by_cases h : (b.length : Int) < k
  · rw [if_pos (by simp only [List.length_append]; omega), if_pos (Or.inr h)]; simp [sh]
  · rw [if_neg (by simp only [List.length_append]; omega), if_neg (by omega)]
    simp only [Int.toNat_natCast]
    exact vgo_sh _ _ _ _ _ _

theorem bodyS_pre (a t : List UInt8) {k kind n : Nat} {d : List UInt8} {nx : Int} (hk : k ≤ a.length) (h : bodyS a k kind = (n, d, nx, 0)) : bodyS (a ++ t) k kind = (n, d, nx, 0) := by
  unfold bodyS at h ⊢
  split at h
  · rename_i h0
    rw [if_pos h0]
    simp only [Prod.mk.injEq] at h
    obtain ⟨rfl, rfl, rfl, he⟩ := h
    have hv : varint a k = ((varint a k).1, (varint a k).2.1, 0) := by rw [← he]
    rw [varint_pre a t hv]
  · rename_i h0
    rw [if_neg h0]
    split at h
    · rename_i h2
      rw [if_pos h2]
      split at h
      · simp only [Prod.mk.injEq] at h; rename_i h1; exact absurd h.2.2.2 h1
      · rename_i he
        have he : (varint a k).2.2 = 0 := by simpa using he
        have hv : varint a k = ((varint a k).1, (varint a k).2.1, 0) := by rw [← he]
        have h1 := varint_ok hv
        rw [varint_pre a t hv]
        dsimp only
        rw [if_neg (by simp)]
        split at h
        · simp at h
        · rw [if_neg (by simp only [List.length_append]; omega), List.drop_append_of_le_length (by omega), List.take_append_of_le_length (by simp; omega)]
          exact h
    · rename_i h2
      rw [if_neg h2]
      split at h
      · rename_i h1
        rw [if_pos h1]
        split at h
        · simp at h
        · rw [if_neg (by simp only [List.length_append]; omega), List.drop_append_of_le_length (by omega), List.take_append_of_le_length (by simp; omega)]
          exact h
      · rename_i h1
        rw [if_neg h1]
        split at h
        · rename_i h5
          rw [if_pos h5]
          split at h
          · simp at h
          · rw [if_neg (by simp only [List.length_append]; omega), List.drop_append_of_le_length (by omega), List.take_append_of_le_length (by simp; omega)]
            exact h
        · simp at h
def shB (n : Nat) (r : Nat × List UInt8 × Int × Int) : Nat × List UInt8 × Int × Int := if r.2.2.2 = 0 then (r.1, r.2.1, r.2.2.1 + n, 0) else r
theorem sh_ok {n : Nat} {r : Int × Int × Int} (h : r.2.2 = 0) : sh n r = (r.1, r.2.1 + n, 0) := by unfold sh; rw [if_pos h]
theorem sh_err {n : Nat} {r : Int × Int × Int} (h : r.2.2 ≠ 0) : sh n r = r := by unfold sh; rw [if_neg h]
theorem shB_ok {n : Nat} {r : Nat × List UInt8 × Int × Int} (h : r.2.2.2 = 0) : shB n r = (r.1, r.2.1, r.2.2.1 + n, 0) := by unfold shB; rw [if_pos h]
theorem shB_err {n : Nat} {r : Nat × List UInt8 × Int × Int} (h : r.2.2.2 ≠ 0) : shB n r = r := by unfold shB; rw [if_neg h]
theorem drop_sh (a b : List UInt8) (n : Nat) : (a ++ b).drop (a.length + n) = b.drop n := by
  rw [List.drop_append, List.drop_eq_nil_of_le (by omega)]
  simp
theorem bodyS_sh (a b : List UInt8) (k kind : Nat) (hk : k ≤ b.length) : bodyS (a ++ b) (a.length + k) kind = shB a.length (bodyS b k kind) := by
  have hla : (a ++ b).length = a.length + b.length := List.length_append
  unfold bodyS
  rw [varint_sh]
  by_cases h0 : kind = 0
  · rw [if_pos h0, if_pos h0]
    by_cases he : (varint b k).2.2 = 0
    · rw [sh_ok he, shB_ok he]
    · rw [sh_err he, shB_err he]
  · rw [if_neg h0, if_neg h0]
    by_cases h2 : kind = 2
    · rw [if_pos h2, if_pos h2]
      by_cases he : (varint b k).2.2 = 0
      · have hv : varint b k = ((varint b k).1, (varint b k).2.1, 0) := by rw [← he]
        have h1 := varint_ok hv
        rw [sh_ok he]
        simp only [he, ne_eq, not_true_eq_false, if_false]
        by_cases hs : (b.length : Int) - (varint b k).2.1 < (varint b k).1
        · have hs2 : ((a ++ b).length : Int) - ((varint b k).2.1 + a.length) < (varint b k).1 := by omega
          rw [if_pos hs, if_pos hs2, shB_err (by decide)]
        · have hs2 : ¬ ((a ++ b).length : Int) - ((varint b k).2.1 + a.length) < (varint b k).1 := by omega
          rw [if_neg hs, if_neg hs2, shB_ok rfl, show ((varint b k).2.1 + (a.length : Int)).toNat = a.length + (varint b k).2.1.toNat by omega, drop_sh]
          simp only [Prod.mk.injEq, true_and, and_true]
          omega
      · have he' : (varint b k).2.2 ≠ 0 := he
        rw [sh_err he, if_pos he', if_pos he', shB_err he]
    · rw [if_neg h2, if_neg h2]
      have hl : (a ++ b).length - (a.length + k) = b.length - k := by omega
      rw [hl, drop_sh]
      by_cases h1 : kind = 1
      · rw [if_pos h1, if_pos h1]
        by_cases hs : b.length - k < 8
        · rw [if_pos hs, if_pos hs, shB_err (by decide)]
        · rw [if_neg hs, if_neg hs, shB_ok rfl]
          simp only [Prod.mk.injEq, true_and, and_true]
          omega
      · rw [if_neg h1, if_neg h1]
        by_cases h5 : kind = 5
        · rw [if_pos h5, if_pos h5]
          by_cases hs : b.length - k < 4
          · rw [if_pos hs, if_pos hs, shB_err (by decide)]
          · rw [if_neg hs, if_neg hs, shB_ok rfl]
            simp only [Prod.mk.injEq, true_and, and_true]
            omega
        · rw [if_neg h5, if_neg h5, shB_err (by decide)]

theorem getGo_fuel (b : List UInt8) : ∀ (f f' k : Nat) (acc : List FD), b.length - k < f → b.length - k < f' → getGo b f k acc = getGo b f' k acc := by
  intro f
  induction f with
  | zero => intro f' k acc h; omega
  | succ f ih =>
    intro f' k acc h h'
    obtain ⟨f', rfl⟩ : ∃ g, f' = g + 1 := ⟨f' - 1, by omega⟩
    by_cases hk : b.length ≤ k
    · rw [getGo_end hk, getGo_end hk]
    · by_cases he : (varint b k).2.2 = 0
      · have hv : varint b k = ((varint b k).1, (varint b k).2.1, 0) := by rw [← he]
        have h1 := varint_ok hv
        by_cases hn : (varint b k).1 / 8 < 1 ∨ 536870911 < (varint b k).1 / 8
        · rw [getGo_num hk he hn, getGo_num hk he hn]
        · by_cases hb : (bodyS b (varint b k).2.1.toNat ((varint b k).1 % 8).toNat).2.2.2 = 0
          · rw [getGo_more hk he hn hb, getGo_more hk he hn hb]
            have hB : bodyS b (varint b k).2.1.toNat ((varint b k).1 % 8).toNat = ((bodyS b (varint b k).2.1.toNat ((varint b k).1 % 8).toNat).1, (bodyS b (varint b k).2.1.toNat ((varint b k).1 % 8).toNat).2.1, (bodyS b (varint b k).2.1.toNat ((varint b k).1 % 8).toNat).2.2.1, 0) := by rw [← hb]
            have h2 := bodyS_ok (by omega) hB
            exact ih _ _ _ (by omega) (by omega)
          · rw [getGo_body hk he hn hb, getGo_body hk he hn hb]
      · rw [getGo_err hk he, getGo_err hk he]

/-- fields behind others -/
def shG (acc : List FD) (r : List FD × Int) : List FD × Int := if r.2 = 0 then (acc ++ r.1, 0) else ([], r.2)
theorem shG_nil {acc : List FD} {e : Int} (h : e ≠ 0) : shG acc ([], e) = ([], e) := by unfold shG; rw [if_neg h]
theorem getGo_sh (a b : List UInt8) (acc0 : List FD) : ∀ (f k : Nat) (acc : List FD), getGo (a ++ b) f (a.length + k) (acc0 ++ acc) = shG acc0 (getGo b f k acc) := by
  intro f
  induction f with
  | zero => intro k acc; simp [getGo, shG]
  | succ f ih =>
    intro k acc
    by_cases hk : b.length ≤ k
    · rw [getGo_end hk, getGo_end (by simp only [List.length_append]; omega)]
      simp [shG]
    · have hk2 : ¬ (a ++ b).length ≤ a.length + k := by simp only [List.length_append]; omega
      have hs := varint_sh a b k
      by_cases he : (varint b k).2.2 = 0
      · have hv : varint b k = ((varint b k).1, (varint b k).2.1, 0) := by rw [← he]
        have h1 := varint_ok hv
        rw [sh_ok he] at hs
        have e1 : ((varint b k).2.1 + (a.length : Int)).toNat = a.length + (varint b k).2.1.toNat := by omega
        have hbs := bodyS_sh a b (varint b k).2.1.toNat ((varint b k).1 % 8).toNat (by omega)
        have he2 : (varint (a ++ b) ((a.length + k : Nat) : Int)).2.2 = 0 := by rw [hs]
        by_cases hn : (varint b k).1 / 8 < 1 ∨ 536870911 < (varint b k).1 / 8
        · rw [getGo_num hk he hn, getGo_num hk2 he2 (by rw [hs]; exact hn), shG_nil (by decide)]
        · have hn2 : ¬ ((varint (a ++ b) ((a.length + k : Nat) : Int)).1 / 8 < 1 ∨ 536870911 < (varint (a ++ b) ((a.length + k : Nat) : Int)).1 / 8) := by rw [hs]; exact hn
          by_cases hb : (bodyS b (varint b k).2.1.toNat ((varint b k).1 % 8).toNat).2.2.2 = 0
          · rw [shB_ok hb] at hbs
            have hB : bodyS b (varint b k).2.1.toNat ((varint b k).1 % 8).toNat = ((bodyS b (varint b k).2.1.toNat ((varint b k).1 % 8).toNat).1, (bodyS b (varint b k).2.1.toNat ((varint b k).1 % 8).toNat).2.1, (bodyS b (varint b k).2.1.toNat ((varint b k).1 % 8).toNat).2.2.1, 0) := by rw [← hb]
            have h2 := bodyS_ok (by omega) hB
            rw [getGo_more hk he hn hb, getGo_more hk2 he2 hn2 (by rw [hs]; dsimp only; rw [e1, hbs]), hs]
            dsimp only
            rw [e1, hbs]
            dsimp only
            rw [show ((bodyS b (varint b k).2.1.toNat ((varint b k).1 % 8).toNat).2.2.1 + (a.length : Int)).toNat = a.length + (bodyS b (varint b k).2.1.toNat ((varint b k).1 % 8).toNat).2.2.1.toNat by omega, List.append_assoc]
            exact ih _ _
          · rw [shB_err hb] at hbs
            rw [getGo_body hk he hn hb, getGo_body hk2 he2 hn2 (by rw [hs]; dsimp only; rw [e1, hbs]; exact hb), hs]
            dsimp only
            rw [e1, hbs, shG_nil hb]
      · rw [sh_err he] at hs
        rw [getGo_err hk he, getGo_err hk2 (by rw [hs]; exact he), hs, shG_nil he]
theorem getGo_pre (a b : List UInt8) : ∀ (f k : Nat) (acc r : List FD) (f' : Nat), k ≤ a.length → a.length - k < f → (a ++ b).length - k < f' → getGo a f k acc = (r, 0) → getGo (a ++ b) f' k acc = getGo (a ++ b) (b.length + 1) a.length r := by
  intro f
  induction f with
  | zero => intro k acc r f' _ h; omega
  | succ f ih =>
    intro k acc r f' hka hf hf' h
    by_cases hk : a.length ≤ k
    · obtain rfl : k = a.length := by omega
      rw [getGo_end hk] at h
      injection h with h _
      subst h
      exact getGo_fuel _ _ _ _ _ hf' (by simp only [List.length_append]; omega)
    · obtain ⟨f', rfl⟩ : ∃ g, f' = g + 1 := ⟨f' - 1, by omega⟩
      have hk2 : ¬ (a ++ b).length ≤ k := by simp only [List.length_append]; omega
      by_cases he : (varint a k).2.2 = 0
      · have hv : varint a k = ((varint a k).1, (varint a k).2.1, 0) := by rw [← he]
        have h1 := varint_ok hv
        have hp := varint_pre a b hv
        have he2 : (varint (a ++ b) k).2.2 = 0 := by rw [hp]
        by_cases hn : (varint a k).1 / 8 < 1 ∨ 536870911 < (varint a k).1 / 8
        · rw [getGo_num hk he hn] at h; simp at h
        · have hn2 : ¬ ((varint (a ++ b) k).1 / 8 < 1 ∨ 536870911 < (varint (a ++ b) k).1 / 8) := by rw [hp]; exact hn
          by_cases hb : (bodyS a (varint a k).2.1.toNat ((varint a k).1 % 8).toNat).2.2.2 = 0
          · have hB : bodyS a (varint a k).2.1.toNat ((varint a k).1 % 8).toNat = ((bodyS a (varint a k).2.1.toNat ((varint a k).1 % 8).toNat).1, (bodyS a (varint a k).2.1.toNat ((varint a k).1 % 8).toNat).2.1, (bodyS a (varint a k).2.1.toNat ((varint a k).1 % 8).toNat).2.2.1, 0) := by rw [← hb]
            have h2 := bodyS_ok (b := a) (by omega) hB
            have hbp := bodyS_pre a b (by omega) hB
            rw [getGo_more hk he hn hb] at h
            rw [getGo_more hk2 he2 hn2 (by rw [hp]; dsimp only; rw [hbp]), hp]
            dsimp only
            rw [hbp]
            dsimp only
            exact ih _ _ _ _ (by omega) (by omega) (by simp only [List.length_append] at hf' ⊢; omega) h
          · rw [getGo_body hk he hn hb] at h; simp only [Prod.mk.injEq] at h; exact absurd h.2 hb
      · rw [getGo_err hk he] at h; simp only [Prod.mk.injEq] at h; exact absurd h.2 he
/-- P7.2: messages one behind the other -/
theorem get_app (a b : List UInt8) {l : List FD} (h : get a = (l, 0)) : get (a ++ b) = shG l (get b) := by
  unfold get at h ⊢
  rw [getGo_pre a b _ _ _ _ _ (Nat.zero_le _) (by omega) (by omega) h]
  have := getGo_sh a b l (b.length + 1) 0 []
  simpa using this

/-- as fields are put -/
def fdput (f : FD) : List UInt8 :=
  if f.kind = 0 then vput 9 (f.num % 536870912 * 8 + f.kind % 8).toNat ++ vput 9 f.int
  else if f.kind = 1 then vput 9 (f.num % 536870912 * 8 + f.kind % 8).toNat ++ le 8 f.int
  else if f.kind = 5 then vput 9 (f.num % 536870912 * 8 + f.kind % 8).toNat ++ le 4 f.int
  else if f.kind = 2 then vput 9 (f.num % 536870912 * 8 + f.kind % 8).toNat ++ (vput 9 f.data.length ++ f.data)
  else []
/-- a field as it may be got -/
structure FD.good (f : FD) : Prop where
  num : 1 ≤ f.num ∧ f.num ≤ 536870911
  kind : f.kind = 0 ∧ f.int < 18446744073709551616 ∧ f.data = [] ∨ f.kind = 1 ∧ f.int < 256 ^ 8 ∧ f.data = [] ∨ f.kind = 5 ∧ f.int < 256 ^ 4 ∧ f.data = [] ∨ f.kind = 2 ∧ f.int = 0 ∧ f.data.length < 18446744073709551616

theorem lowN_le : ∀ (k v : Nat), v < 256 ^ k → lowN (le k v) = v := by
  intro k
  induction k with
  | zero => intro v h; simp at h; subst h; rfl
  | succ k ih =>
    intro v h
    have e : le (k + 1) v = UInt8.ofNat (v % 256) :: le k (v / 256) := by
      unfold le
      rw [List.range_succ_eq_map]
      simp only [List.map_cons, List.map_map, Nat.pow_zero, Nat.div_one, List.cons.injEq, true_and]
      apply List.map_congr_left
      intro i _
      simp only [Function.comp_apply, Nat.succ_eq_add_one]
      rw [Nat.pow_succ, Nat.mul_comm, Nat.div_div_eq_div_mul]
    rw [e]
    simp only [lowN]
    rw [ih (v / 256) (by rw [Nat.pow_succ] at h; omega)]
    have : (UInt8.ofNat (v % 256)).toNat = v % 256 := by simp
    rw [this]
    omega
theorem varint_own (v : Nat) (t : List UInt8) (hv : v < 18446744073709551616) : varint (vput 9 v ++ t) ((0 : Nat) : Int) = ((v : Int), ((vput 9 v).length : Int), 0) := by
  have := varint_vput [] t v hv
  simpa using this
theorem get_one {f : FD} (h : f.good) : get (fdput f) = ([f], 0) := by
  obtain ⟨num, kind, int, data⟩ := f
  obtain ⟨⟨hn1, hn2⟩, hk⟩ := h
  dsimp only at hn1 hn2 hk
  have key : ∀ rest, (kind = 0 ∨ kind = 1 ∨ kind = 2 ∨ kind = 5) → bodyS rest 0 kind.toNat = (int, data, (rest.length : Int), 0) → get (vput 9 (num % 536870912 * 8 + kind % 8).toNat ++ rest) = ([⟨num, kind, int, data⟩], 0) := by
    intro rest hkk hr
    have e : (((num % 536870912 * 8 + kind % 8).toNat : Nat) : Int) = num * 8 + kind := by omega
    have hv := varint_own (num % 536870912 * 8 + kind % 8).toNat rest (by omega)
    rw [e] at hv
    generalize vput 9 (num % 536870912 * 8 + kind % 8).toNat = V at *
    have hs := bodyS_sh V rest 0 kind.toNat (Nat.zero_le _)
    rw [hr, shB_ok rfl] at hs
    have d8 : (num * 8 + kind) / 8 = num := by omega
    have m8 : (num * 8 + kind) % 8 = kind := by omega
    by_cases hl : (V ++ rest).length ≤ 0
    · exfalso
      have h1 := varint_ok hv
      simp only [List.length_append] at hl h1
      omega
    · unfold get
      have he : (varint (V ++ rest) ((0 : Nat) : Int)).2.2 = 0 := by rw [hv]
      have hB : bodyS (V ++ rest) (varint (V ++ rest) ((0 : Nat) : Int)).2.1.toNat ((varint (V ++ rest) ((0 : Nat) : Int)).1 % 8).toNat = (int, data, (rest.length : Int) + (V.length : Int), 0) := by
        rw [hv]
        dsimp only
        rw [m8]
        exact hs
      rw [getGo_more hl he (by rw [hv]; dsimp only; rw [d8]; omega) (by rw [hB]), hB, hv]
      dsimp only
      rw [d8, m8, getGo_end (by simp only [List.length_append]; omega)]
      rfl
  unfold fdput
  rcases hk with ⟨rfl, h1, rfl⟩ | ⟨rfl, h1, rfl⟩ | ⟨rfl, h1, rfl⟩ | ⟨rfl, rfl, h1⟩
  · rw [if_pos rfl]
    refine key _ (by omega) ?_
    have := varint_own int [] h1
    rw [List.append_nil] at this
    unfold bodyS
    rw [if_pos (by rfl), this]
    simp
  · simp only [Int.reduceEq, if_false, if_true]
    refine key _ (by omega) ?_
    unfold bodyS
    rw [if_neg (by decide), if_neg (by decide), if_pos (by decide), if_neg (by rw [le_len]; decide), List.drop_zero, List.take_of_length_le (by rw [le_len]; omega), lowN_le _ _ h1, le_len]
  · simp only [Int.reduceEq, if_false, if_true]
    refine key _ (by omega) ?_
    unfold bodyS
    rw [if_neg (by decide), if_neg (by decide), if_neg (by decide), if_pos (by decide), if_neg (by rw [le_len]; decide), List.drop_zero, List.take_of_length_le (by rw [le_len]; omega), lowN_le _ _ h1, le_len]
  · simp only [Int.reduceEq, if_false, if_true]
    refine key _ (by omega) ?_
    have hv := varint_own data.length data h1
    unfold bodyS
    rw [if_neg (by decide), if_pos (by decide), hv]
    dsimp only
    rw [if_neg (by decide), if_neg (by simp only [List.length_append]; omega)]
    simp only [Int.toNat_natCast, Prod.mk.injEq, true_and, and_true]
    refine ⟨?_, by simp only [List.length_append]; omega⟩
    have := drop_sh (vput 9 data.length) data 0
    simp only [Nat.add_zero, List.drop_zero] at this
    rw [this, List.take_length]
theorem get_put (l : List FD) : (∀ f ∈ l, f.good) → get (l.flatMap fdput) = (l, 0) := by
  induction l with
  | nil => intro _; rfl
  | cons f l ih =>
    intro h
    rw [List.flatMap_cons, get_app _ _ (get_one (h f (by simp))), ih (fun g hg => h g (by simp [hg]))]
    simp [shG]

theorem pow_nat {v : Int} {m : Nat} (h0 : 0 ≤ v) (h : v < 128 ^ m) : v.toNat < 128 ^ m := by
  have e : ((128 ^ m : Nat) : Int) = (128 : Int) ^ m := by simp
  omega
theorem fdput_len {b : List UInt8} {k kind n : Nat} {d : List UInt8} {nx : Int} {num : Int} (hk : k ≤ b.length) (h : bodyS b k kind = (n, d, nx, 0)) (hkd : kind < 8) (hn : 1 ≤ num ∧ num ≤ 536870911) (hl : b.length ≤ 1000000) :
    FD.good ⟨num, kind, n, d⟩ ∧ ((fdput ⟨num, kind, n, d⟩).length : Int) ≤ (vput 9 (num * 8 + kind).toNat).length + (nx - k) := by
  have e : (num % 536870912 * 8 + (kind : Int) % 8).toNat = (num * 8 + kind).toNat := by omega
  have hok := bodyS_ok hk h
  unfold bodyS at h
  unfold fdput
  dsimp only
  rw [e]
  split at h
  · rename_i h0
    subst h0
    simp only [Prod.mk.injEq] at h
    obtain ⟨rfl, rfl, rfl, he⟩ := h
    have hv : varint b k = ((varint b k).1, (varint b k).2.1, 0) := by rw [← he]
    have h1 := varint_ok hv
    obtain ⟨h2, m, h3, h4, h5⟩ := varint_bd hv
    refine ⟨⟨hn, Or.inl ⟨rfl, by show (varint b k).1.toNat < _; omega, rfl⟩⟩, ?_⟩
    have := vput_min 9 (varint b k).1.toNat m h5 (pow_nat h1.1 h4)
    simp only [Int.cast_ofNat_Int, ↓reduceIte, List.length_append]
    omega
  · split at h
    · rename_i h2
      subst h2
      split at h
      · simp only [Prod.mk.injEq] at h; rename_i h1; exact absurd h.2.2.2 h1
      · rename_i he
        have he : (varint b k).2.2 = 0 := by simpa using he
        have hv : varint b k = ((varint b k).1, (varint b k).2.1, 0) := by rw [← he]
        have h1 := varint_ok hv
        obtain ⟨h2, m, h3, h4, h5⟩ := varint_bd hv
        split at h
        · simp at h
        · simp only [Prod.mk.injEq] at h
          obtain ⟨rfl, rfl, rfl, -⟩ := h
          have hlen : ((b.drop (varint b k).2.1.toNat).take (varint b k).1.toNat).length = (varint b k).1.toNat := by simp; omega
          refine ⟨⟨hn, Or.inr (Or.inr (Or.inr ⟨rfl, rfl, by show ((b.drop (varint b k).2.1.toNat).take (varint b k).1.toNat).length < _; omega⟩))⟩, ?_⟩
          have := vput_min 9 (varint b k).1.toNat m h5 (pow_nat h1.1 h4)
          simp only [Int.cast_ofNat_Int, Int.reduceEq, ↓reduceIte, List.length_append]
          rw [hlen]
          omega
    · split at h
      · rename_i h1
        subst h1
        split at h
        · simp at h
        · simp only [Prod.mk.injEq] at h
          obtain ⟨rfl, rfl, rfl, -⟩ := h
          have := lowN_lt ((b.drop k).take 8)
          rw [List.length_take, List.length_drop, Nat.min_eq_left (by omega)] at this
          refine ⟨⟨hn, Or.inr (Or.inl ⟨rfl, this, rfl⟩)⟩, ?_⟩
          simp only [Int.cast_ofNat_Int, Int.reduceEq, ↓reduceIte, List.length_append, le_len]
          omega
      · split at h
        · rename_i h1
          subst h1
          split at h
          · simp at h
          · simp only [Prod.mk.injEq] at h
            obtain ⟨rfl, rfl, rfl, -⟩ := h
            have := lowN_lt ((b.drop k).take 4)
            rw [List.length_take, List.length_drop, Nat.min_eq_left (by omega)] at this
            refine ⟨⟨hn, Or.inr (Or.inr (Or.inl ⟨rfl, this, rfl⟩))⟩, ?_⟩
            simp only [Int.cast_ofNat_Int, Int.reduceEq, ↓reduceIte, List.length_append, le_len]
            omega
        · simp at h
theorem getGo_good (b : List UInt8) (hl : b.length ≤ 1000000) : ∀ (f k : Nat) (acc r : List FD), k ≤ b.length → getGo b f k acc = (r, 0) → ∃ l, r = acc ++ l ∧ (∀ f ∈ l, f.good) ∧ k + (l.flatMap fdput).length ≤ b.length := by
  intro f
  induction f with
  | zero => intro k acc r hk h; simp only [getGo, Prod.mk.injEq, and_true] at h; exact ⟨[], by simp [h], by simp, by simpa using hk⟩
  | succ f ih =>
    intro k acc r hka h
    by_cases hk : b.length ≤ k
    · rw [getGo_end hk] at h
      injection h with h _
      exact ⟨[], by simp [h], by simp, by simpa using hka⟩
    · by_cases he : (varint b k).2.2 = 0
      · have hv : varint b k = ((varint b k).1, (varint b k).2.1, 0) := by rw [← he]
        have h1 := varint_ok hv
        obtain ⟨h2, m, h3, h4, h5⟩ := varint_bd hv
        by_cases hn : (varint b k).1 / 8 < 1 ∨ 536870911 < (varint b k).1 / 8
        · rw [getGo_num hk he hn] at h; simp at h
        · by_cases hb : (bodyS b (varint b k).2.1.toNat ((varint b k).1 % 8).toNat).2.2.2 = 0
          · rw [getGo_more hk he hn hb] at h
            have hB : bodyS b (varint b k).2.1.toNat ((varint b k).1 % 8).toNat = ((bodyS b (varint b k).2.1.toNat ((varint b k).1 % 8).toNat).1, (bodyS b (varint b k).2.1.toNat ((varint b k).1 % 8).toNat).2.1, (bodyS b (varint b k).2.1.toNat ((varint b k).1 % 8).toNat).2.2.1, 0) := by rw [← hb]
            have ho := bodyS_ok (by omega) hB
            have hf := fdput_len (num := (varint b k).1 / 8) (by omega) hB (by omega) (by omega) hl
            have hm := vput_min 9 (varint b k).1.toNat m h5 (pow_nat h1.1 h4)
            have ek : (((varint b k).1 % 8).toNat : Int) = (varint b k).1 % 8 := by omega
            rw [ek] at hf
            have ev : ((varint b k).1 / 8 * 8 + (varint b k).1 % 8).toNat = (varint b k).1.toNat := by omega
            rw [ev] at hf
            obtain ⟨l, rfl, hg, hlen⟩ := ih _ _ _ (by omega) h
            refine ⟨⟨(varint b k).1 / 8, (varint b k).1 % 8, (bodyS b (varint b k).2.1.toNat ((varint b k).1 % 8).toNat).1, (bodyS b (varint b k).2.1.toNat ((varint b k).1 % 8).toNat).2.1⟩ :: l, by simp, ?_, ?_⟩
            · intro g hg2
              rcases List.mem_cons.1 hg2 with rfl | hg2
              · exact hf.1
              · exact hg g hg2
            · rw [List.flatMap_cons, List.length_append]
              have := hf.2
              omega
          · rw [getGo_body hk he hn hb] at h; simp only [Prod.mk.injEq] at h; exact absurd h.2 hb
      · rw [getGo_err hk he] at h; simp only [Prod.mk.injEq] at h; exact absurd h.2 he
/-- P7.4: what is got, and put, is no longer, and got again -/
theorem put_get {b : List UInt8} (hl : b.length ≤ 1000000) {l : List FD} (h : get b = (l, 0)) : (l.flatMap fdput).length ≤ b.length ∧ get (l.flatMap fdput) = (l, 0) ∧ ∀ f ∈ l, f.good := by
  obtain ⟨l', h1, h2, h3⟩ := getGo_good b hl _ _ _ _ (Nat.zero_le _) h
  rw [List.nil_append] at h1
  subst h1
  exact ⟨by omega, get_put _ h2, h2⟩
theorem getGo_bad (b : List UInt8) : ∀ (f k : Nat) (acc : List FD), (getGo b f k acc).2 = 0 ∨ (getGo b f k acc).1 = [] := by
  intro f
  induction f with
  | zero => intro k acc; exact Or.inl rfl
  | succ f ih =>
    intro k acc
    by_cases hk : b.length ≤ k
    · rw [getGo_end hk]; exact Or.inl rfl
    · by_cases he : (varint b k).2.2 = 0
      · by_cases hn : (varint b k).1 / 8 < 1 ∨ 536870911 < (varint b k).1 / 8
        · rw [getGo_num hk he hn]; exact Or.inr rfl
        · by_cases hb : (bodyS b (varint b k).2.1.toNat ((varint b k).1 % 8).toNat).2.2.2 = 0
          · rw [getGo_more hk he hn hb]; exact ih _ _
          · rw [getGo_body hk he hn hb]; exact Or.inr rfl
      · rw [getGo_err hk he]; exact Or.inr rfl
theorem get_bad {b : List UInt8} (h : (get b).2 ≠ 0) : (get b).1 = [] := (getGo_bad b _ _ _).resolve_left h
end Go.Proofs.YtehffeglgdcogaaDoor
