/-
  Tiles, in plain Lean: which layers may be, their bytes, what is got of bytes; what is put is got. Tiles, in plain Lean: what is got of few bytes is small enough to be put, and got again as the same.
-/
import Derived.Test.YtjalimkajcjapaaDoorChecked
import Derived.Test.YtjalimkajcjapaaDoorVPutsL
import Derived.Test.YtjalimkajcjapaaDoorPLaws2
import Derived.Test.YtjalimkajcjapaaDoorMapF
namespace Go.Proofs.YtjalimkajcjapaaDoor
open Go.RowKit B

abbrev AtP := ByteArray × Val
abbrev FtP := Bool × Nat × Int × List (List Pt) × List AtP
abbrev LyP := ByteArray × Int × List FtP
def prL (kind : Int) (ps : List (List Pt)) : Int := pright kind (ps.map fun l => ⟨.slice none 0 0, l⟩)
theorem prL_of (kind : Int) (A : List PRow) : pright kind A = prL kind (A.map PRow.l) := by
  unfold prL pright
  have e1 : (∃ r ∈ A, (r.l.length : Int) < kind) ↔ ∃ r ∈ (A.map PRow.l).map (fun l => (⟨.slice none 0 0, l⟩ : PRow)), (r.l.length : Int) < kind := by
    constructor
    · rintro ⟨r, hr, h⟩
      exact ⟨⟨.slice none 0 0, r.l⟩, by simp only [List.map_map, List.mem_map]; exact ⟨r, hr, rfl⟩, h⟩
    · rintro ⟨r, hr, h⟩
      simp only [List.map_map, List.mem_map] at hr
      obtain ⟨q, hq, rfl⟩ := hr
      exact ⟨q, hq, h⟩
  have e2 : offsR A = offsR ((A.map PRow.l).map fun l => ⟨.slice none 0 0, l⟩) := by
    unfold offsR
    rw [List.map_map, List.any_map]
    rfl
  simp only [List.length_map]
  rw [e2]
  simp only [e1]
def rightAs (l : List AtP) : Bool := decide (l.map Prod.fst).Nodup && l.all fun a => Lib.validD a.1.data.toList && rightV a.2
def rightF (f : FtP) : Bool := decide (prL f.2.2.1 f.2.2.2.1 = 0) && (f.1 || decide (f.2.1 = 0)) && rightAs f.2.2.2.2
def rightT (l : List LyP) : Bool := decide (l.map Prod.fst).Nodup && l.all fun x => Lib.validD x.1.data.toList && decide (1 ≤ x.2.1 ∧ x.2.1 ≤ 65536) && x.2.2.all rightF

/-! ### dictionaries -/
def dK (K : List ByteArray) (l : List AtP) : List ByteArray := l.foldl (fun K a => putL K a.1) K
def dV (V : List Val) (l : List AtP) : List Val := l.foldl (fun V a => putL V a.2) V
def dKF (K : List ByteArray) (F : List FtP) : List ByteArray := F.foldl (fun K f => dK K f.2.2.2.2) K
def dVF (V : List Val) (F : List FtP) : List Val := F.foldl (fun V f => dV V f.2.2.2.2) V
section
variable {α : Type} [DecidableEq α]
theorem putL_pre (L : List α) (x : α) : L <+: putL L x := by
  unfold putL
  split
  · exact List.prefix_refl _
  · exact List.prefix_append _ _
theorem putL_mem (L : List α) (x : α) : x ∈ putL L x := by
  unfold putL
  split
  · assumption
  · simp
theorem putL_len (L : List α) (x : α) : (putL L x).length ≤ L.length + 1 := by
  unfold putL
  split <;> simp
theorem fold_pre {β : Type} (g : β → α) : ∀ (l : List β) (L : List α), L <+: l.foldl (fun L b => putL L (g b)) L
  | [], _ => List.prefix_refl _
  | b :: l, L => (putL_pre L (g b)).trans (fold_pre g l _)
theorem fold_mem {β : Type} (g : β → α) : ∀ (l : List β) (L : List α) (b : β), b ∈ l → g b ∈ l.foldl (fun L b => putL L (g b)) L
  | [], _, b, h => by simp at h
  | c :: l, L, b, h => by
    rcases List.mem_cons.1 h with rfl | h
    · exact (fold_pre g l _).subset (putL_mem L (g b))
    · exact fold_mem g l _ b h
theorem fold_len {β : Type} (g : β → α) : ∀ (l : List β) (L : List α), (l.foldl (fun L b => putL L (g b)) L).length ≤ L.length + l.length
  | [], L => by simp
  | c :: l, L => by
    have h1 := fold_len g l (putL L (g c))
    have h2 := putL_len L (g c)
    simp only [List.foldl_cons, List.length_cons]
    omega
theorem fold_all {β : Type} (g : β → α) (Q : α → Prop) : ∀ (l : List β) (L : List α), (∀ x ∈ L, Q x) → (∀ b ∈ l, Q (g b)) → ∀ x ∈ l.foldl (fun L b => putL L (g b)) L, Q x
  | [], L, h, _ => h
  | c :: l, L, h, k => by
    refine fold_all g Q l _ ?_ fun b hb => k b (by simp [hb])
    intro x hx0
    have hx : x ∈ putL L (g c) := hx0
    unfold putL at hx
    split at hx
    · exact h x hx
    · rcases List.mem_append.1 hx with hx | hx
      · exact h x hx
      · rw [List.mem_singleton.1 hx]; exact k c (by simp)
theorem idx_pre {L M : List α} (h : L <+: M) {x : α} (hx : x ∈ L) : ix M x = ix L x := by
  obtain ⟨t, rfl⟩ := h
  exact ix_app hx
end
theorem dK_pre (K : List ByteArray) (l : List AtP) : K <+: dK K l := fold_pre Prod.fst l K
theorem dV_pre (V : List Val) (l : List AtP) : V <+: dV V l := fold_pre Prod.snd l V
theorem dKF_pre : ∀ (F : List FtP) (K : List ByteArray), K <+: dKF K F
  | [], _ => List.prefix_refl _
  | f :: F, K => (dK_pre K f.2.2.2.2).trans (dKF_pre F _)
theorem dVF_pre : ∀ (F : List FtP) (V : List Val), V <+: dVF V F
  | [], _ => List.prefix_refl _
  | f :: F, V => (dV_pre V f.2.2.2.2).trans (dVF_pre F _)
theorem dKF_mem : ∀ (F : List FtP) (K : List ByteArray) (f : FtP), f ∈ F → ∀ a ∈ f.2.2.2.2, a.1 ∈ dKF K F
  | [], _, f, h => by simp at h
  | g :: F, K, f, h => by
    rcases List.mem_cons.1 h with rfl | h
    · exact fun a ha => (dKF_pre F _).subset (fold_mem Prod.fst f.2.2.2.2 K a ha)
    · exact dKF_mem F _ f h
theorem dVF_mem : ∀ (F : List FtP) (V : List Val) (f : FtP), f ∈ F → ∀ a ∈ f.2.2.2.2, a.2 ∈ dVF V F
  | [], _, f, h => by simp at h
  | g :: F, V, f, h => by
    rcases List.mem_cons.1 h with rfl | h
    · exact fun a ha => (dVF_pre F _).subset (fold_mem Prod.snd f.2.2.2.2 V a ha)
    · exact dVF_mem F _ f h
theorem dKF_len : ∀ (F : List FtP) (K : List ByteArray), (∀ f ∈ F, f.2.2.2.2.length ≤ 300) → (dKF K F).length ≤ K.length + F.length * 300
  | [], K, _ => by simp [dKF]
  | f :: F, K, h => by
    have h1 := dKF_len F (dK K f.2.2.2.2) fun g hg => h g (by simp [hg])
    have h2 : (dK K f.2.2.2.2).length ≤ _ := fold_len Prod.fst f.2.2.2.2 K
    have h3 := h f (by simp)
    have e : dKF K (f :: F) = dKF (dK K f.2.2.2.2) F := rfl
    rw [e, List.length_cons]
    omega
theorem dVF_len : ∀ (F : List FtP) (V : List Val), (∀ f ∈ F, f.2.2.2.2.length ≤ 300) → (dVF V F).length ≤ V.length + F.length * 300
  | [], V, _ => by simp [dVF]
  | f :: F, V, h => by
    have h1 := dVF_len F (dV V f.2.2.2.2) fun g hg => h g (by simp [hg])
    have h2 : (dV V f.2.2.2.2).length ≤ _ := fold_len Prod.snd f.2.2.2.2 V
    have h3 := h f (by simp)
    have e : dVF V (f :: F) = dVF (dV V f.2.2.2.2) F := rfl
    rw [e, List.length_cons]
    omega
theorem dKF_all (Q : ByteArray → Prop) : ∀ (F : List FtP) (K : List ByteArray), (∀ x ∈ K, Q x) → (∀ f ∈ F, ∀ a ∈ f.2.2.2.2, Q a.1) → ∀ x ∈ dKF K F, Q x
  | [], K, h, _ => h
  | f :: F, K, h, k => dKF_all Q F _ (fold_all Prod.fst Q _ _ h (k f (by simp))) fun g hg => k g (by simp [hg])
theorem dVF_all (Q : Val → Prop) : ∀ (F : List FtP) (V : List Val), (∀ x ∈ V, Q x) → (∀ f ∈ F, ∀ a ∈ f.2.2.2.2, Q a.2) → ∀ x ∈ dVF V F, Q x
  | [], V, h, _ => h
  | f :: F, V, h, k => dVF_all Q F _ (fold_all Prod.snd Q _ _ h (k f (by simp))) fun g hg => k g (by simp [hg])

/-! ### bytes -/
def tagsP (K : List ByteArray) (V : List Val) (l : List AtP) : List Int := l.flatMap fun a => [((ix K a.1 : Nat) : Int), ((ix V a.2 : Nat) : Int)]
def ftP (K : List ByteArray) (V : List Val) (f : FtP) : List FD :=
  (if f.1 then [⟨1, 0, f.2.1, []⟩] else []) ++ (if f.2.2.2.2 = [] then [] else [⟨2, 2, 0, pack (tagsP K V f.2.2.2.2)⟩]) ++ [⟨3, 0, f.2.2.1.toNat, []⟩, ⟨4, 2, 0, pack (encS f.2.2.1 f.2.2.2.1)⟩]
def lyG (K : List ByteArray) (V : List Val) (x : LyP) : List FD :=
  ⟨1, 2, 0, tx x.1⟩ :: x.2.2.map (fun f => ⟨2, 2, 0, (ftP K V f).flatMap fdput⟩) ++ K.map (fun k => ⟨3, 2, 0, tx k⟩) ++ V.map (fun v => ⟨4, 2, 0, putV v⟩) ++ [⟨5, 0, x.2.1.toNat, []⟩, ⟨15, 0, 2, []⟩]
def lyP (x : LyP) : List FD := lyG (dKF [] x.2.2) (dVF [] x.2.2) x
def putT (l : List LyP) : List UInt8 := (l.map fun x => (⟨3, 2, 0, (lyP x).flatMap fdput⟩ : FD)).flatMap fdput

theorem fdput_le (f : FD) : (fdput f).length ≤ f.data.length + 30 := by
  have a := (vput_len 9 (f.num % 536870912 * 8 + f.kind % 8).toNat).2
  have b := (vput_len 9 f.int).2
  have c := (vput_len 9 f.data.length).2
  unfold fdput
  split
  · rw [List.length_append]; omega
  · split
    · rw [List.length_append, le_len]; omega
    · split
      · rw [List.length_append, le_len]; omega
      · split
        · rw [List.length_append, List.length_append]; omega
        · simp
theorem fdputs_le (D : Nat) : ∀ l : List FD, (∀ f ∈ l, f.data.length ≤ D) → (l.flatMap fdput).length ≤ l.length * (D + 30)
  | [], _ => by simp
  | f :: l, h => by
    have h1 := fdputs_le D l fun g hg => h g (by simp [hg])
    have h2 := fdput_le f
    have h3 := h f (by simp)
    rw [List.flatMap_cons, List.length_append, List.length_cons, Nat.add_mul]
    omega

/-! ### got of bytes -/
def numF (l : List FD) (n : Int) : List FD := l.filter fun f => decide (f.num = n)
def kindF (l : List FD) (n k : Int) : Bool := l.all fun f => !decide (f.num = n) || decide (f.kind = k)
def dataF (l : List FD) (n : Int) : List UInt8 := match numF l n with | [] => [] | f :: _ => f.data
def getAt (K : List ByteArray) (V : List Val) : List Int → Option (List AtP)
  | [] => some []
  | [_] => none
  | k :: v :: r => match K[k.toNat]?, V[v.toNat]?, getAt K V r with
    | some x, some y, some l => some ((x, y) :: l)
    | _, _, _ => none
def onceF (l : List FD) : Bool := [(1 : Int), 2, 3, 4].all (fun n => decide ((numF l n).length ≤ 1)) && kindF l 1 0 && kindF l 2 2 && kindF l 3 0 && kindF l 4 2
def getF (K : List ByteArray) (V : List Val) (b : List UInt8) : Except Int FtP :=
  if (get b).2 ≠ 0 then .error (get b).2 else
  if onceF (get b).1 = false then .error 3 else
  if (unpack (dataF (get b).1 2)).2 ≠ 0 then .error (unpack (dataF (get b).1 2)).2 else
  if (unpack (dataF (get b).1 4)).2 ≠ 0 then .error (unpack (dataF (get b).1 4)).2 else
  match getAt K V (unpack (dataF (get b).1 2)).1 with
  | none => .error 3
  | some at_ => match numF (get b).1 3 with
    | [] => .error 3
    | t :: _ => if t.int < 1 ∨ 3 < t.int then .error 3 else
      match decS t.int (unpack (dataF (get b).1 4)).1 with
      | .error e => .error e
      | .ok ps => match numF (get b).1 1 with
        | [] => .ok (false, 0, t.int, ps, at_)
        | i :: _ => .ok (true, i.int, t.int, ps, at_)
def mapE {α β : Type} (g : α → Except Int β) : List α → Except Int (List β)
  | [] => .ok []
  | a :: l => match g a with
    | .error e => .error e
    | .ok b => match mapE g l with
      | .error e => .error e
      | .ok r => .ok (b :: r)
def valE (b : List UInt8) : Except Int Val := if (getS b).2 ≠ 0 then .error (getS b).2 else .ok (getS b).1
def onceL (l : List FD) : Bool := [(1 : Int), 5, 15].all (fun n => decide ((numF l n).length ≤ 1)) && kindF l 1 2 && kindF l 2 2 && kindF l 3 2 && kindF l 4 2 && kindF l 5 0 && kindF l 15 0
def keysF (l : List FD) : List ByteArray := (numF l 3).map fun f => ⟨f.data.toArray⟩
def intF (l : List FD) (n : Int) (d : Nat) : Nat := match numF l n with | [] => d | f :: _ => f.int
def getLy (b : List UInt8) : Except Int LyP :=
  if (get b).2 ≠ 0 then .error (get b).2 else
  if onceL (get b).1 = false ∨ numF (get b).1 1 = [] ∨ intF (get b).1 15 1 < 1 ∨ 2 < intF (get b).1 15 1 then .error 3 else
  match mapE valE ((numF (get b).1 4).map FD.data) with
  | .error e => .error e
  | .ok V => match mapE (getF (keysF (get b).1) V) ((numF (get b).1 2).map FD.data) with
    | .error e => .error e
    | .ok F => .ok (⟨(dataF (get b).1 1).toArray⟩, (min (intF (get b).1 5 4096) 65537 : Nat), F)
def lyE (f : FD) : Except Int LyP := if f.kind ≠ 2 then .error 3 else getLy f.data
def getT (b : List UInt8) : Except Int (List LyP) :=
  if (get b).2 ≠ 0 then .error (get b).2 else
  match mapE lyE (numF (get b).1 3) with
  | .error e => .error e
  | .ok l => if rightT l then .ok l else .error 3

/-! ### what is put is got -/
def AtOk (a : AtP) : Prop := a.1.size ≤ 2000 ∧ U64 a.2.b ∧ a.2.t.size ≤ 2000 ∧ plainV a.2 = a.2
def FtOkP (f : FtP) : Prop := f.2.1 < 18446744073709551616 ∧ (encS f.2.2.1 f.2.2.2.1).length ≤ 1000 ∧ (∀ p ∈ f.2.2.2.1, p.length ≤ 1000) ∧ f.2.2.2.2.length ≤ 300 ∧ ∀ a ∈ f.2.2.2.2, AtOk a
def LyOkP (x : LyP) : Prop := x.1.size ≤ 2000 ∧ x.2.2.length ≤ 300 ∧ ∀ f ∈ x.2.2, FtOkP f
theorem mapE_ok {α β : Type} {g : α → Except Int β} {h : β → α} : ∀ (l : List β), (∀ b ∈ l, g (h b) = .ok b) → mapE g (l.map h) = .ok l
  | [], _ => rfl
  | b :: l, H => by
    rw [List.map_cons]
    unfold mapE
    rw [H b (by simp), mapE_ok l fun c hc => H c (by simp [hc])]
theorem prL_ok {kind : Int} {ps : List (List Pt)} (h : prL kind ps = 0) : (1 ≤ kind ∧ kind ≤ 3) ∧ ps ≠ [] ∧ (kind = 1 → ps.length = 1) ∧ ∀ p ∈ ps, kind ≤ (p.length : Int) ∧ ∀ x ∈ p, Near x := by
  obtain ⟨h1, h2, h3, h4⟩ := pright_ok h
  rw [List.length_map] at h2 h3
  refine ⟨h1, fun e => h2 (by rw [e]; rfl), h3, fun p hp => ?_⟩
  exact h4 ⟨.slice none 0 0, p⟩ (List.mem_map.2 ⟨p, hp, rfl⟩)
theorem getAt_tags (K : List ByteArray) (V : List Val) : ∀ l : List AtP, (∀ a ∈ l, a.1 ∈ K ∧ a.2 ∈ V) → getAt K V (tagsP K V l) = some l
  | [], _ => rfl
  | a :: l, h => by
    obtain ⟨h1, h2⟩ := h a (by simp)
    have ih := getAt_tags K V l fun b hb => h b (by simp [hb])
    have e : tagsP K V (a :: l) = ((ix K a.1 : Nat) : Int) :: ((ix V a.2 : Nat) : Int) :: tagsP K V l := rfl
    have l1 := ix_lt h1
    have l2 := ix_lt h2
    rw [e]
    unfold getAt
    rw [ih, Int.toNat_natCast, Int.toNat_natCast, List.getElem?_eq_getElem l1, List.getElem?_eq_getElem l2, ix_get l1, ix_get l2]
theorem tags_len (K : List ByteArray) (V : List Val) (l : List AtP) : (tagsP K V l).length = l.length * 2 := by
  induction l with
  | nil => rfl
  | cons a l ih =>
    have e : tagsP K V (a :: l) = ((ix K a.1 : Nat) : Int) :: ((ix V a.2 : Nat) : Int) :: tagsP K V l := rfl
    rw [e, List.length_cons, List.length_cons, ih, List.length_cons]
    omega
theorem tags_bd {K : List ByteArray} {V : List Val} (hK : K.length ≤ 4294967295) (hV : V.length ≤ 4294967295) : ∀ (l : List AtP), ∀ x ∈ tagsP K V l, 0 ≤ x ∧ x ≤ 4294967295 := by
  intro l x hx
  obtain ⟨a, _, ha⟩ := List.mem_flatMap.1 hx
  have h1 := ix_le K a.1
  have h2 := ix_le V a.2
  simp only [List.mem_cons, List.not_mem_nil, or_false] at ha
  rcases ha with rfl | rfl <;> omega
theorem ftP_good {K : List ByteArray} {V : List Val} {f : FtP} (hf : FtOkP f) (hr : rightF f = true) : (∀ g ∈ ftP K V f, g.good ∧ g.data.length ≤ 10000) ∧ (ftP K V f).length ≤ 4 := by
  obtain ⟨h1, h2, h3, h4, h5⟩ := hf
  unfold rightF at hr
  simp only [Bool.and_eq_true, decide_eq_true_eq] at hr
  obtain ⟨k1, -, -, -⟩ := prL_ok hr.1.1
  have l1 := pack_len (tagsP K V f.2.2.2.2)
  rw [tags_len] at l1
  have l2 := pack_len (encS f.2.2.1 f.2.2.2.1)
  constructor
  · intro g hg
    unfold ftP at hg
    rw [List.mem_append, List.mem_append] at hg
    rcases hg with (hg | hg) | hg
    · split at hg
      · rw [List.mem_singleton.1 hg]
        exact ⟨⟨⟨by simp, by simp⟩, .inl ⟨rfl, h1, rfl⟩⟩, by simp⟩
      · simp at hg
    · split at hg
      · simp at hg
      · rw [List.mem_singleton.1 hg]
        exact ⟨⟨⟨by simp, by simp⟩, .inr (.inr (.inr ⟨rfl, rfl, by show _ < _; dsimp only; omega⟩))⟩, by dsimp only; omega⟩
    · simp only [List.mem_cons, List.not_mem_nil, or_false] at hg
      rcases hg with rfl | rfl
      · exact ⟨⟨⟨by simp, by simp⟩, .inl ⟨rfl, by dsimp only; omega, rfl⟩⟩, by simp⟩
      · exact ⟨⟨⟨by simp, by simp⟩, .inr (.inr (.inr ⟨rfl, rfl, by dsimp only; omega⟩))⟩, by dsimp only; omega⟩
  · unfold ftP
    rw [List.length_append, List.length_append]
    split <;> split <;> simp
theorem ftP_len {K : List ByteArray} {V : List Val} {f : FtP} (hf : FtOkP f) (hr : rightF f = true) : ((ftP K V f).flatMap fdput).length ≤ 50000 := by
  obtain ⟨h1, h2⟩ := ftP_good (K := K) (V := V) hf hr
  have := fdputs_le 10000 (ftP K V f) fun g hg => (h1 g hg).2
  have := Nat.mul_le_mul_right (10000 + 30) h2
  omega
theorem getF_put {K : List ByteArray} {V : List Val} (hK : K.length ≤ 4294967295) (hV : V.length ≤ 4294967295) {f : FtP} (hf : FtOkP f) (hr : rightF f = true) (hm : ∀ a ∈ f.2.2.2.2, a.1 ∈ K ∧ a.2 ∈ V) :
    getF K V ((ftP K V f).flatMap fdput) = .ok f := by
  have hg := get_put (ftP K V f) fun g hg => ((ftP_good hf hr).1 g hg).1
  obtain ⟨h1, h2, h3, h4, h5⟩ := hf
  unfold rightF at hr
  simp only [Bool.and_eq_true, decide_eq_true_eq, Bool.or_eq_true] at hr
  obtain ⟨⟨hp, hid⟩, -⟩ := hr
  obtain ⟨k1, k2, k3, k4⟩ := prL_ok hp
  have u1 := unpack_pack (tagsP K V f.2.2.2.2) (tags_bd hK hV _)
  have u2 := unpack_pack (encS f.2.2.1 f.2.2.2.1) (fun x hx => encS_bd _ _ (fun p hp => ⟨h3 p hp, (k4 p hp).2⟩) x hx)
  have u3 := enc_dec k1 k2 k3 fun p hp => ⟨(k4 p hp).1, h3 p hp, (k4 p hp).2⟩
  have u4 := getAt_tags K V f.2.2.2.2 hm
  obtain ⟨h, id, ty, ps, at_⟩ := f
  dsimp only at *
  have u0 : unpack [] = ([], 0) := rfl
  have ty1 : ¬ (ty.toNat < 1 ∨ 3 < ty.toNat) := by omega
  have ty2 : ((ty.toNat : Nat) : Int) = ty := by omega
  have t2 : unpack (dataF (ftP K V (h, id, ty, ps, at_)) 2) = (tagsP K V at_, 0) := by
    by_cases he : at_ = []
    · subst he
      cases h <;> rfl
    · have : dataF (ftP K V (h, id, ty, ps, at_)) 2 = pack (tagsP K V at_) := by
        unfold dataF numF ftP
        cases h <;> simp [he]
      rw [this, u1]
  have t4 : dataF (ftP K V (h, id, ty, ps, at_)) 4 = pack (encS ty ps) := by
    unfold dataF numF ftP
    by_cases he : at_ = [] <;> cases h <;> simp [he]
  have t3 : numF (ftP K V (h, id, ty, ps, at_)) 3 = [⟨3, 0, ty.toNat, []⟩] := by
    unfold numF ftP
    by_cases he : at_ = [] <;> cases h <;> simp [he]
  have t1 : numF (ftP K V (h, id, ty, ps, at_)) 1 = if h then [⟨1, 0, id, []⟩] else [] := by
    unfold numF ftP
    by_cases he : at_ = [] <;> cases h <;> simp [he]
  have t0 : onceF (ftP K V (h, id, ty, ps, at_)) = true := by
    unfold onceF numF kindF ftP
    by_cases he : at_ = [] <;> cases h <;> simp [he]
  unfold getF
  rw [hg]
  dsimp only
  rw [if_neg (by simp), t0, if_neg (by simp), t2, t4, u2]
  dsimp only
  rw [if_neg (by simp), if_neg (by simp), u4, t3]
  dsimp only
  rw [if_neg ty1, ty2, u3]
  dsimp only
  rw [t1]
  cases h with
  | true => rfl
  | false =>
    have : id = 0 := by rcases hid with hid | hid; cases hid; exact hid
    subst this
    rfl
theorem arr_tx (s : ByteArray) : (⟨(tx s).toArray⟩ : ByteArray) = s := by unfold tx; simp
theorem valE_put {v : Val} (hb : U64 v.b) (hs : v.t.size ≤ 2000) (hp : plainV v = v) (hr : rightV v = true) : valE (putV v) = .ok v := by
  unfold valE
  rw [getS_put hb hs hr, hp]
  rfl
theorem putV_len (v : Val) (hs : v.t.size ≤ 2000) : (putV v).length ≤ 2030 := by
  unfold putV
  split
  · have := fdput_le (fldV v (.slice none 0 0)).fd
    have e : fput (fldV v (.slice none 0 0)) = fdput (fldV v (.slice none 0 0)).fd := rfl
    rw [e]
    have h2 : (fldV v (.slice none 0 0)).fd.data.length ≤ 2000 := by
      show (if v.k = 1 then tx v.t else []).length ≤ 2000
      split
      · rw [tx_len]; exact hs
      · simp
    omega
  · simp
theorem right_at {x : LyP} (hr : x.2.2.all rightF = true) : ∀ f ∈ x.2.2, ∀ a ∈ f.2.2.2.2, rightV a.2 = true := by
  intro f hf a ha
  have := List.all_eq_true.1 hr f hf
  unfold rightF rightAs at this
  simp only [Bool.and_eq_true] at this
  have := List.all_eq_true.1 this.2.2 a ha
  simp only [Bool.and_eq_true] at this
  exact this.2
theorem lyP_good {x : LyP} (hx : LyOkP x) (he : 1 ≤ x.2.1 ∧ x.2.1 ≤ 65536) (hr : x.2.2.all rightF = true) : (∀ g ∈ lyP x, g.good ∧ g.data.length ≤ 50000) ∧ (lyP x).length ≤ 180303 := by
  obtain ⟨h1, h2, h3⟩ := hx
  have hK := dKF_len x.2.2 [] fun f hf => (h3 f hf).2.2.2.1
  have hV := dVF_len x.2.2 [] fun f hf => (h3 f hf).2.2.2.1
  have aK := dKF_all (fun k => k.size ≤ 2000) x.2.2 [] (by simp) fun f hf a ha => ((h3 f hf).2.2.2.2 a ha).1
  have aV := dVF_all (fun v => U64 v.b ∧ v.t.size ≤ 2000) x.2.2 [] (by simp) fun f hf a ha => ⟨((h3 f hf).2.2.2.2 a ha).2.1, ((h3 f hf).2.2.2.2 a ha).2.2.1⟩
  have hd : ∀ g : FD, 1 ≤ g.num → g.num ≤ 536870911 → g.kind = 2 → g.int = 0 → g.data.length ≤ 50000 → g.good ∧ g.data.length ≤ 50000 := fun g a b c d e => ⟨⟨⟨a, b⟩, .inr (.inr (.inr ⟨c, d, by omega⟩))⟩, e⟩
  constructor
  · intro g hg
    unfold lyP lyG at hg
    simp only [List.cons_append, List.mem_cons, List.mem_append, List.mem_map, List.not_mem_nil, or_false] at hg
    rcases hg with rfl | ((⟨f, hf, rfl⟩ | ⟨k, hk, rfl⟩) | ⟨v, hv, rfl⟩) | rfl | rfl
    · exact hd _ (by simp) (by simp) rfl rfl (by dsimp only; rw [tx_len]; omega)
    · exact hd _ (by simp) (by simp) rfl rfl (ftP_len (h3 f hf) (List.all_eq_true.1 hr f hf))
    · exact hd _ (by simp) (by simp) rfl rfl (by dsimp only; rw [tx_len]; have := aK k hk; omega)
    · exact hd _ (by simp) (by simp) rfl rfl (by have := putV_len v (aV v hv).2; dsimp only; omega)
    · exact ⟨⟨⟨by simp, by simp⟩, .inl ⟨rfl, by dsimp only; omega, rfl⟩⟩, by simp⟩
    · exact ⟨⟨⟨by simp, by simp⟩, .inl ⟨rfl, by simp, rfl⟩⟩, by simp⟩
  · unfold lyP lyG
    simp only [List.length_append, List.length_cons, List.length_map, List.length_nil] at hK hV ⊢
    omega
theorem lyP_len {x : LyP} (hx : LyOkP x) (he : 1 ≤ x.2.1 ∧ x.2.1 ≤ 65536) (hr : x.2.2.all rightF = true) : ((lyP x).flatMap fdput).length ≤ 10000000000 := by
  obtain ⟨h1, h2⟩ := lyP_good hx he hr
  have := fdputs_le 50000 (lyP x) fun g hg => (h1 g hg).2
  have := Nat.mul_le_mul_right (50000 + 30) h2
  omega
theorem lyP_len2 {x : LyP} (hx : LyOkP x) (hr : x.2.2.all rightF = true) : ((lyP x).flatMap fdput).length ≤ 500000000 := by
  obtain ⟨h1, h2, h3⟩ := hx
  have hK := dKF_len x.2.2 [] fun f hf => (h3 f hf).2.2.2.1
  have hV := dVF_len x.2.2 [] fun f hf => (h3 f hf).2.2.2.1
  have aK := dKF_all (fun k => k.size ≤ 2000) x.2.2 [] (by simp) fun f hf a ha => ((h3 f hf).2.2.2.2 a ha).1
  have aV := dVF_all (fun v => v.t.size ≤ 2000) x.2.2 [] (by simp) fun f hf a ha => ((h3 f hf).2.2.2.2 a ha).2.2.1
  simp only [List.length_nil, Nat.zero_add] at hK hV
  unfold lyP lyG
  generalize hKK : dKF [] x.2.2 = K at *
  generalize hVV : dVF [] x.2.2 = V at *
  have q1 := fdput_le ⟨1, 2, 0, tx x.1⟩
  have q2 := fdputs_le 50000 (x.2.2.map fun f => (⟨2, 2, 0, (ftP K V f).flatMap fdput⟩ : FD)) fun g hg => by
    obtain ⟨f, hf, rfl⟩ := List.mem_map.1 hg
    exact ftP_len (h3 f hf) (List.all_eq_true.1 hr f hf)
  have q3 := fdputs_le 2000 (K.map fun k => (⟨3, 2, 0, tx k⟩ : FD)) fun g hg => by
    obtain ⟨k, hk, rfl⟩ := List.mem_map.1 hg
    have := aK k hk
    show (tx k).length ≤ 2000
    rw [tx_len]; exact this
  have q4 := fdputs_le 2030 (V.map fun v => (⟨4, 2, 0, putV v⟩ : FD)) fun g hg => by
    obtain ⟨v, hv, rfl⟩ := List.mem_map.1 hg
    exact putV_len v (aV v hv)
  have q5 := fdputs_le 0 [(⟨5, 0, x.2.1.toNat, []⟩ : FD), ⟨15, 0, 2, []⟩] fun g hg => by
    simp only [List.mem_cons, List.not_mem_nil, or_false] at hg
    rcases hg with rfl | rfl <;> simp
  rw [List.length_map] at q2 q3 q4
  have m2 := Nat.mul_le_mul_right (50000 + 30) h2
  have m3 := Nat.mul_le_mul_right (2000 + 30) hK
  have m4 := Nat.mul_le_mul_right (2030 + 30) hV
  dsimp only at q1
  rw [tx_len] at q1
  simp only [List.flatMap_append, List.flatMap_cons, List.length_append, List.length_cons, List.length_nil, List.flatMap_nil, Nat.add_zero, List.cons_append] at *
  omega
theorem filt_map {α : Type} (n m : Int) (l : List α) (d : α → List UInt8) : numF (l.map fun a => (⟨m, 2, 0, d a⟩ : FD)) n = if m = n then l.map fun a => (⟨m, 2, 0, d a⟩ : FD) else [] := by
  unfold numF
  split
  · rename_i h
    rw [List.filter_eq_self]
    intro a ha
    obtain ⟨b, _, rfl⟩ := List.mem_map.1 ha
    simpa using h
  · rename_i h
    rw [List.filter_eq_nil_iff]
    intro a ha
    obtain ⟨b, _, rfl⟩ := List.mem_map.1 ha
    simpa using h
theorem numF_app (l m : List FD) (n : Int) : numF (l ++ m) n = numF l n ++ numF m n := List.filter_append _ _
theorem getLy_put {x : LyP} (hx : LyOkP x) (he : 1 ≤ x.2.1 ∧ x.2.1 ≤ 65536) (hr : x.2.2.all rightF = true) : getLy ((lyP x).flatMap fdput) = .ok x := by
  have hg := get_put (lyP x) fun g hg => ((lyP_good hx he hr).1 g hg).1
  obtain ⟨h1, h2, h3⟩ := hx
  have hK := dKF_len x.2.2 [] fun f hf => (h3 f hf).2.2.2.1
  have hV := dVF_len x.2.2 [] fun f hf => (h3 f hf).2.2.2.1
  have aV := dVF_all (fun v => U64 v.b ∧ v.t.size ≤ 2000 ∧ plainV v = v ∧ rightV v = true) x.2.2 [] (by simp) fun f hf a ha => ⟨((h3 f hf).2.2.2.2 a ha).2.1, ((h3 f hf).2.2.2.2 a ha).2.2.1, ((h3 f hf).2.2.2.2 a ha).2.2.2, right_at hr f hf a ha⟩
  have mK := dKF_mem x.2.2 []
  have mV := dVF_mem x.2.2 []
  simp only [List.length_nil] at hK hV
  have fd : ∀ f ∈ x.2.2, getF (dKF [] x.2.2) (dVF [] x.2.2) ((ftP (dKF [] x.2.2) (dVF [] x.2.2) f).flatMap fdput) = .ok f := fun f hf => getF_put (by omega) (by omega) (h3 f hf) (List.all_eq_true.1 hr f hf) fun a ha => ⟨mK f hf a ha, mV f hf a ha⟩
  unfold lyP at hg ⊢
  generalize dKF [] x.2.2 = K at *
  generalize dVF [] x.2.2 = V at *
  obtain ⟨nm, ext, F⟩ := x
  dsimp only at *
  have N : ∀ n : Int, numF (lyG K V (nm, ext, F)) n = (if 1 = n then [⟨1, 2, 0, tx nm⟩] else []) ++ (if 2 = n then F.map fun f => ⟨2, 2, 0, (ftP K V f).flatMap fdput⟩ else []) ++ (if 3 = n then K.map fun k => ⟨3, 2, 0, tx k⟩ else []) ++ (if 4 = n then V.map fun v => ⟨4, 2, 0, putV v⟩ else []) ++ (if 5 = n then [⟨5, 0, ext.toNat, []⟩] else []) ++ (if 15 = n then [⟨15, 0, 2, []⟩] else []) := by
    intro n
    have e : lyG K V (nm, ext, F) = [⟨1, 2, 0, tx nm⟩] ++ (F.map fun f => ⟨2, 2, 0, (ftP K V f).flatMap fdput⟩) ++ (K.map fun k => ⟨3, 2, 0, tx k⟩) ++ (V.map fun v => ⟨4, 2, 0, putV v⟩) ++ [⟨5, 0, ext.toNat, []⟩] ++ [⟨15, 0, 2, []⟩] := by
      unfold lyG
      simp
    rw [e, numF_app, numF_app, numF_app, numF_app, numF_app, filt_map, filt_map, filt_map]
    have s : ∀ f : FD, numF [f] n = if f.num = n then [f] else [] := fun f => by
      unfold numF
      by_cases h : f.num = n <;> simp [h]
    rw [s, s, s]
  have n1 := N 1
  have n2 := N 2
  have n3 := N 3
  have n4 := N 4
  have n5 := N 5
  have n15 := N 15
  simp only [Int.reduceEq, if_true, if_false, List.nil_append, List.append_nil] at n1 n2 n3 n4 n5 n15
  have on : onceL (lyG K V (nm, ext, F)) = true := by
    unfold onceL
    simp only [List.all_cons, List.all_nil, n1, n5, n15, List.length_singleton, Nat.le_refl, decide_true, Bool.and_true, Bool.true_and, Bool.and_eq_true]
    unfold kindF lyG
    simp
  unfold getLy
  rw [hg]
  dsimp only
  rw [if_neg (by simp), on, n1]
  have i15 : intF (lyG K V (nm, ext, F)) 15 1 = 2 := by unfold intF; rw [n15]
  have i5 : intF (lyG K V (nm, ext, F)) 5 4096 = ext.toNat := by unfold intF; rw [n5]
  rw [i15, if_neg (by simp), n4, n2, i5]
  have ek : keysF (lyG K V (nm, ext, F)) = K := by
    unfold keysF
    rw [n3, List.map_map]
    conv => rhs; rw [← List.map_id K]
    exact List.map_congr_left fun k _ => arr_tx k
  rw [ek, List.map_map, List.map_map]
  have v1 := mapE_ok (g := valE) (h := putV) V fun v hv => valE_put (aV v hv).1 (aV v hv).2.1 (aV v hv).2.2.1 (aV v hv).2.2.2
  have v2 := mapE_ok (g := getF K V) (h := fun f => (ftP K V f).flatMap fdput) F fd
  have w1 : mapE valE (V.map (FD.data ∘ fun v => ⟨4, 2, 0, putV v⟩)) = .ok V := v1
  have w2 : mapE (getF K V) (F.map (FD.data ∘ fun f => ⟨2, 2, 0, (ftP K V f).flatMap fdput⟩)) = .ok F := v2
  rw [w1]
  dsimp only
  rw [w2]
  dsimp only
  have dn : dataF (lyG K V (nm, ext, F)) 1 = tx nm := by unfold dataF; rw [n1]
  have mx : ((min ext.toNat 65537 : Nat) : Int) = ext := by omega
  rw [dn, arr_tx, mx]
theorem rightT_one {l : List LyP} (h : rightT l = true) : ∀ x ∈ l, (1 ≤ x.2.1 ∧ x.2.1 ≤ 65536) ∧ x.2.2.all rightF = true := by
  intro x hx
  unfold rightT at h
  simp only [Bool.and_eq_true] at h
  have := List.all_eq_true.1 h.2 x hx
  simp only [Bool.and_eq_true, decide_eq_true_eq] at this
  exact ⟨this.1.2, this.2⟩
/-- P10.4 -/
theorem getT_put {l : List LyP} (hl : ∀ x ∈ l, LyOkP x) (hr : rightT l = true) : getT (putT l) = .ok l := by
  have h1 := rightT_one hr
  have hg := get_put (l.map fun x => (⟨3, 2, 0, (lyP x).flatMap fdput⟩ : FD)) fun g hg => by
    obtain ⟨x, hx, rfl⟩ := List.mem_map.1 hg
    exact ⟨⟨by simp, by simp⟩, .inr (.inr (.inr ⟨rfl, rfl, by have := lyP_len (hl x hx) (h1 x hx).1 (h1 x hx).2; dsimp only; omega⟩))⟩
  unfold getT putT
  rw [hg]
  dsimp only
  rw [if_neg (by simp), filt_map, if_pos rfl]
  have := mapE_ok (g := lyE) (h := fun x : LyP => (⟨3, 2, 0, (lyP x).flatMap fdput⟩ : FD)) l fun x hx => by
    unfold lyE
    rw [if_neg (by simp)]
    exact getLy_put (hl x hx) (h1 x hx).1 (h1 x hx).2
  rw [this]
  dsimp only
  rw [if_pos hr]
end Go.Proofs.YtjalimkajcjapaaDoor

namespace Go.Proofs.YtjalimkajcjapaaDoor
open Go.RowKit B

theorem unpGo_len (b : List UInt8) : ∀ (f : Nat) (k : Int) (acc : List Int), 0 ≤ k → ((unpGo b f k acc).1.length : Int) ≤ acc.length + max 0 (b.length - k) ∧ ((∀ x ∈ acc, 0 ≤ x ∧ x ≤ 4294967295) → ∀ x ∈ (unpGo b f k acc).1, 0 ≤ x ∧ x ≤ 4294967295)
  | 0, k, acc, _ => by simp only [unpGo]; exact ⟨by omega, fun h => h⟩
  | f + 1, k, acc, hk => by
    by_cases h1 : (b.length : Int) ≤ k
    · rw [unpGo_end h1]; exact ⟨by dsimp only; omega, fun h => h⟩
    · obtain ⟨⟨v, nx, e⟩, hv⟩ : ∃ x, varint b k = x := ⟨_, rfl⟩
      by_cases he : e = 0
      · subst he
        have := varint_ok hv
        by_cases hb : 4294967295 < v
        · rw [unpGo_big h1 hv hb]; exact ⟨by simp only [List.length_nil]; omega, fun h x hx => by simp at hx⟩
        · rw [unpGo_more h1 hv hb]
          obtain ⟨i1, i2⟩ := unpGo_len b f nx (acc ++ [v]) (by omega)
          rw [List.length_append, List.length_singleton] at i1
          refine ⟨by omega, fun h => i2 fun x hx => ?_⟩
          rcases List.mem_append.1 hx with hx | hx
          · exact h x hx
          · rw [List.mem_singleton.1 hx]; omega
      · rw [unpGo_err h1 hv he]; exact ⟨by simp only [List.length_nil]; omega, fun h x hx => by simp at hx⟩
theorem unpack_len (b : List UInt8) : (unpack b).1.length ≤ b.length ∧ ∀ x ∈ (unpack b).1, 0 ≤ x ∧ x ≤ 4294967295 := by
  obtain ⟨h1, h2⟩ := unpGo_len b (b.length + 1) 0 [] (by omega)
  simp only [List.length_nil] at h1
  exact ⟨by unfold unpack; omega, h2 (by simp)⟩
theorem encG_mem (kind : Int) : ∀ (ps : List (List Pt)) (a : Pt), ∀ p ∈ ps, p.length ≤ (encG kind a ps).length
  | [], _, p, h => by simp at h
  | q :: ps, a, p, h => by
    simp only [encG, List.length_append, List.length_cons, putPts_len, List.length_take, List.length_drop]
    rcases List.mem_cons.1 h with rfl | h
    · omega
    · have := encG_mem kind ps (lastPt a q) p h
      omega
theorem encS_mem {kind : Int} {ps : List (List Pt)} (h1 : kind = 1 → ps.length = 1) : ∀ p ∈ ps, p.length ≤ (encS kind ps).length := by
  intro p hp
  cases ps with
  | nil => simp at hp
  | cons q ps =>
    by_cases hk : kind = 1
    · have := h1 hk
      obtain rfl : ps = [] := by cases ps with | nil => rfl | cons a l => simp at this
      simp only [encS, if_pos hk]
      rw [List.mem_singleton.1 hp, List.length_cons, putPts_len]
      omega
    · simp only [encS, if_neg hk]
      exact encG_mem kind (q :: ps) _ p hp
theorem plain_plain (x : Val) : plainV (plainV x) = plainV x := by
  unfold plainV
  by_cases h : x.k = 1 <;> simp [h]
def ValOk (n : Nat) (v : Val) : Prop := U64 v.b ∧ v.t.size ≤ n ∧ plainV v = v
theorem good_int {f : FD} (h : f.good) : f.int < 18446744073709551616 := by
  have p4 : (256 : Nat) ^ 4 = 4294967296 := by decide
  have p8 : (256 : Nat) ^ 8 = 18446744073709551616 := by decide
  rcases h.kind with ⟨_, h, _⟩ | ⟨_, h, _⟩ | ⟨_, h, _⟩ | ⟨_, h, _⟩ <;> omega
theorem get_all {b : List UInt8} (hb : b.length ≤ 600) (h : (get b).2 = 0) : (∀ f ∈ (get b).1, f.good ∧ f.data.length ≤ b.length) ∧ 2 * (get b).1.length ≤ b.length := by
  obtain ⟨h1, -, h2⟩ := put_get (b := b) (by omega) (l := (get b).1) (by rw [← h])
  obtain ⟨h3, h4⟩ := fdput_all _ h2
  exact ⟨fun f hf => ⟨h2 f hf, by have := h4 f hf; omega⟩, by omega⟩
theorem valE_okn {b : List UInt8} (hb : b.length ≤ 600) {v : Val} (h : valE b = .ok v) : ValOk b.length v := by
  unfold valE at h
  split at h
  · simp at h
  · rename_i h0
    simp only [Except.ok.injEq] at h
    subst h
    unfold getS at h0 ⊢
    by_cases he : (get b).2 = 0
    · obtain ⟨h1, h2⟩ := get_all hb he
      rw [if_neg (by simp [he])] at h0 ⊢
      have key : ∀ f ∈ (get b).1, (ofS f).2 = 0 → ValOk b.length (ofS f).1 := by
        intro f hf hz
        obtain ⟨k1, k2⟩ := h1 f hf
        have k3 := good_int k1
        unfold ofS at hz ⊢
        split
        · have e : ValOk b.length (plainV (valF f)) := by
            unfold ValOk
            refine ⟨?_, ?_, plain_plain _⟩
            · unfold plainV
              split
              · exact ⟨by simp, by simp⟩
              · show U64 (bitsV f.num f.int)
                unfold bitsV U64
                split
                · rw [IntKind.wrap_u64]; omega
                · omega
            · unfold plainV
              split
              · show f.data.toArray.size ≤ _
                simpa using k2
              · show (0 : Nat) ≤ _; omega
          exact e
        · rename_i hn
          rw [if_neg hn] at hz
          simp at hz
      have hs : ∀ f ∈ (get b).1.filter low7, f ∈ (get b).1 := fun f hf => (List.mem_filter.1 hf).1
      generalize (get b).1.filter low7 = L at *
      match L, h0 with
      | [], h0 => simp [oneS] at h0
      | [f], h0 => exact key f (hs f (by simp)) (by simpa [oneS] using h0)
      | f :: g :: L, h0 => simp [oneS] at h0
    · rw [if_pos he] at h0
      simp [he] at h0
theorem mapE_len {α β : Type} {g : α → Except Int β} : ∀ (l : List α) (r : List β), mapE g l = .ok r → r.length = l.length ∧ ∀ y ∈ r, ∃ x ∈ l, g x = .ok y
  | [], r, h => by
    unfold mapE at h
    simp only [Except.ok.injEq] at h
    subst h
    simp
  | a :: l, r, h => by
    unfold mapE at h
    cases ha : g a with
    | error e => rw [ha] at h; simp at h
    | ok b =>
      rw [ha] at h
      cases hl : mapE g l with
      | error e => rw [hl] at h; simp at h
      | ok q =>
        rw [hl] at h
        simp only [Except.ok.injEq] at h
        subst h
        obtain ⟨i1, i2⟩ := mapE_len l q hl
        refine ⟨by simp [i1], fun y hy => ?_⟩
        rcases List.mem_cons.1 hy with rfl | hy
        · exact ⟨a, by simp, ha⟩
        · obtain ⟨x, hx, h⟩ := i2 y hy
          exact ⟨x, by simp [hx], h⟩
theorem getAt_ok {K : List ByteArray} {V : List Val} : ∀ (t : List Int) (l : List AtP), getAt K V t = some l → 2 * l.length = t.length ∧ ∀ a ∈ l, a.1 ∈ K ∧ a.2 ∈ V
  | [], l, h => by
    simp only [getAt, Option.some.injEq] at h
    subst h
    simp
  | [x], l, h => by simp [getAt] at h
  | k :: v :: r, l, h => by
    unfold getAt at h
    cases h1 : K[k.toNat]? with
    | none => rw [h1] at h; simp at h
    | some x =>
      cases h2 : V[v.toNat]? with
      | none => rw [h1, h2] at h; simp at h
      | some y =>
        cases h3 : getAt K V r with
        | none => rw [h1, h2, h3] at h; simp at h
        | some q =>
          rw [h1, h2, h3] at h
          simp only [Option.some.injEq] at h
          subst h
          obtain ⟨i1, i2⟩ := getAt_ok r q h3
          refine ⟨by simp only [List.length_cons]; omega, fun a ha => ?_⟩
          rcases List.mem_cons.1 ha with rfl | ha
          · exact ⟨List.mem_of_getElem? h1, List.mem_of_getElem? h2⟩
          · exact i2 a ha
theorem numF_mem {l : List FD} {n : Int} : ∀ f ∈ numF l n, f ∈ l := fun _ hf => (List.mem_filter.1 hf).1
theorem dataF_le {l : List FD} {n : Int} {m : Nat} (h : ∀ f ∈ l, f.data.length ≤ m) : (dataF l n).length ≤ m := by
  unfold dataF
  split
  · simp
  · rename_i g r e
    exact h g (numF_mem g (by rw [e]; simp))
theorem getF_okn {K : List ByteArray} {V : List Val} {b : List UInt8} (hb : b.length ≤ 600) (hK : ∀ k ∈ K, k.size ≤ 600) (hV : ∀ v ∈ V, ValOk 600 v) {f : FtP} (h : getF K V b = .ok f) : FtOkP f := by
  unfold getF at h
  split at h
  · simp at h
  · rename_i h0
    obtain ⟨g1, g2⟩ := get_all hb (by simpa using h0)
    split at h
    · simp at h
    · split at h
      · simp at h
      · split at h
        · simp at h
        · have d2 := unpack_len (dataF (get b).1 2)
          have d4 := unpack_len (dataF (get b).1 4)
          have m2 := dataF_le (n := 2) fun f hf => (g1 f hf).2
          have m4 := dataF_le (n := 4) fun f hf => (g1 f hf).2
          cases h1 : getAt K V (unpack (dataF (get b).1 2)).1 with
          | none => rw [h1] at h; simp at h
          | some at_ =>
            obtain ⟨a1, a2⟩ := getAt_ok _ _ h1
            rw [h1] at h
            dsimp only at h
            cases h3 : numF (get b).1 3 with
            | nil => rw [h3] at h; simp at h
            | cons t ts =>
              rw [h3] at h
              dsimp only at h
              split at h
              · simp at h
              · cases h4 : decS t.int (unpack (dataF (get b).1 4)).1 with
                | error e => rw [h4] at h; simp at h
                | ok ps =>
                  rw [h4] at h
                  dsimp only at h
                  obtain ⟨e1, e2, e3, e4, e5⟩ := dec_enc (fun x hx => (d4.2 x hx).1) h4
                  have el : (encS t.int ps).length ≤ 600 := by rw [e2]; omega
                  have em := encS_mem (kind := t.int) (ps := ps) e4
                  have fin : ∀ (i : Nat) (hh : Bool), i < 18446744073709551616 → FtOkP (hh, i, t.int, ps, at_) := fun i hh hi =>
                    ⟨hi, by dsimp only; omega, fun p hp => by have := em p hp; omega, by dsimp only; omega, fun a ha => by
                      obtain ⟨q1, q2⟩ := a2 a ha
                      have := hK _ q1
                      obtain ⟨r1, r2, r3⟩ := hV _ q2
                      exact ⟨by omega, r1, by omega, r3⟩⟩
                  cases h5 : numF (get b).1 1 with
                  | nil =>
                    rw [h5] at h
                    simp only [Except.ok.injEq] at h
                    subst h
                    exact fin 0 false (by decide)
                  | cons i is =>
                    rw [h5] at h
                    simp only [Except.ok.injEq] at h
                    subst h
                    exact fin i.int true (good_int (g1 i (numF_mem i (by rw [h5]; simp))).1)
theorem getLy_okn {b : List UInt8} (hb : b.length ≤ 600) {x : LyP} (h : getLy b = .ok x) : LyOkP x := by
  unfold getLy at h
  split at h
  · simp at h
  · rename_i h0
    obtain ⟨g1, g2⟩ := get_all hb (by simpa using h0)
    split at h
    · simp at h
    · cases hv : mapE valE ((numF (get b).1 4).map FD.data) with
      | error e => rw [hv] at h; simp at h
      | ok V =>
        rw [hv] at h
        dsimp only at h
        cases hF : mapE (getF (keysF (get b).1) V) ((numF (get b).1 2).map FD.data) with
        | error e => rw [hF] at h; simp at h
        | ok F =>
          rw [hF] at h
          simp only [Except.ok.injEq] at h
          subst h
          have dd : ∀ n : Int, ∀ d ∈ (numF (get b).1 n).map FD.data, d.length ≤ 600 := by
            intro n d hd
            obtain ⟨f, hf, rfl⟩ := List.mem_map.1 hd
            have := (g1 f (numF_mem f hf)).2
            omega
          have kV : ∀ v ∈ V, ValOk 600 v := by
            intro v hv'
            obtain ⟨d, hd, e⟩ := (mapE_len _ _ hv).2 v hv'
            have := dd 4 d hd
            obtain ⟨q1, q2, q3⟩ := valE_okn this e
            exact ⟨q1, by omega, q3⟩
          have kK : ∀ k ∈ keysF (get b).1, k.size ≤ 600 := by
            intro k hk
            obtain ⟨f, hf, rfl⟩ := List.mem_map.1 hk
            have := dd 3 f.data (List.mem_map.2 ⟨f, hf, rfl⟩)
            show f.data.toArray.size ≤ 600
            simpa using this
          obtain ⟨l1, l2⟩ := mapE_len _ _ hF
          have := dataF_le (n := 1) fun f hf => (g1 f hf).2
          have s2 : (numF (get b).1 2).length ≤ (get b).1.length := List.length_filter_le _ _
          rw [List.length_map] at l1
          refine ⟨?_, by dsimp only; omega, fun f hf => ?_⟩
          · show (⟨(dataF (get b).1 1).toArray⟩ : ByteArray).size ≤ 2000
            have e : (⟨(dataF (get b).1 1).toArray⟩ : ByteArray).size = (dataF (get b).1 1).length := by show (dataF (get b).1 1).toArray.size = _; simp
            rw [e]
            omega
          · obtain ⟨d, hd, e⟩ := l2 f hf
            exact getF_okn (dd 2 d hd) kK kV e
theorem getT_okn {b : List UInt8} (hb : b.length ≤ 600) {l : List LyP} (h : getT b = .ok l) : (∀ x ∈ l, LyOkP x) ∧ rightT l = true ∧ l.length ≤ 300 := by
  unfold getT at h
  split at h
  · simp at h
  · rename_i h0
    obtain ⟨g1, g2⟩ := get_all hb (by simpa using h0)
    cases hl : mapE lyE (numF (get b).1 3) with
    | error e => rw [hl] at h; simp at h
    | ok r =>
      rw [hl] at h
      dsimp only at h
      split at h
      · rename_i hr
        simp only [Except.ok.injEq] at h
        subst h
        obtain ⟨l1, l2⟩ := mapE_len _ _ hl
        have s2 : (numF (get b).1 3).length ≤ (get b).1.length := List.length_filter_le _ _
        refine ⟨fun x hx => ?_, hr, by omega⟩
        obtain ⟨f, hf, e⟩ := l2 x hx
        unfold lyE at e
        split at e
        · simp at e
        · exact getLy_okn (by have := (g1 f (numF_mem f hf)).2; omega) e
      · simp at h
/-- P10.3, P10.4: what is got, and put, is got as the same -/
theorem tile_law {b : List UInt8} (hb : b.length ≤ 600) {l : List LyP} (h : getT b = .ok l) : getT (putT l) = .ok l := by
  obtain ⟨h1, h2, -⟩ := getT_okn hb h
  exact getT_put h1 h2
end Go.Proofs.YtjalimkajcjapaaDoor
