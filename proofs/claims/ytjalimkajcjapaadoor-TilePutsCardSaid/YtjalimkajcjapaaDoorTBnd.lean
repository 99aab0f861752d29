/-
  Tiles got of bytes, in plain Lean: bytes of which no more than so many fields are got.
-/
import Derived.Test.YtjalimkajcjapaaDoorChecked
import Derived.Test.YtjalimkajcjapaaDoorTGet
namespace Go.Proofs.YtjalimkajcjapaaDoor
open Go.RowKit B

theorem get_sm {b : List UInt8} {m : Nat} (hb : b.length ≤ m) (hm : m ≤ 600) : (∀ f ∈ (get b).1, f.data.length ≤ m) ∧ 2 * (get b).1.length ≤ m := by
  by_cases h : (get b).2 = 0
  · obtain ⟨h1, h2⟩ := get_all (by omega) h
    exact ⟨fun f hf => by have := (h1 f hf).2; omega, by omega⟩
  · rw [get_bad h]
    simp
theorem ftB_small {b : List UInt8} (hb : b.length ≤ 600) : FtB b := by
  obtain ⟨h1, h2⟩ := get_sm hb (Nat.le_refl _)
  refine ⟨by omega, fun f hf => by have := h1 f hf; omega, ?_⟩
  have k1 := (unpack_len (dataF (get b).1 4)).1
  have k2 := dataF_le (n := 4) h1
  omega
theorem lyB_small {b : List UInt8} (hb : b.length ≤ 600) : LyB b := by
  obtain ⟨h1, h2⟩ := get_sm hb (Nat.le_refl _)
  exact ⟨by omega, by omega, fun f hf => ⟨by have := h1 f hf; omega, fun _ => by have := h1 f hf; omega, fun _ => ftB_small (h1 f hf)⟩⟩
theorem tgB_small {b : List UInt8} (hb : b.length ≤ 600) : TgB b := by
  obtain ⟨h1, h2⟩ := get_sm hb (Nat.le_refl _)
  exact ⟨by omega, by omega, fun f hf _ => lyB_small (h1 f hf)⟩
theorem dataF_ft {K : List ByteArray} {V : List Val} (f : FtP) : dataF (ftP K V f) 4 = pack (encS f.2.2.1 f.2.2.2.1) := by
  obtain ⟨h, id, ty, ps, at_⟩ := f
  unfold dataF numF ftP
  by_cases he : at_ = [] <;> cases h <;> simp [he]
theorem ftB_put {K : List ByteArray} {V : List Val} {f : FtP} (hf : FtOkP f) (hr : rightF f = true) : FtB ((ftP K V f).flatMap fdput) := by
  obtain ⟨h1, -⟩ := ftP_good (K := K) (V := V) hf hr
  have hg := get_put (ftP K V f) fun g hg => (h1 g hg).1
  have hl := ftP_len (K := K) (V := V) hf hr
  obtain ⟨-, k2, k3, -, -⟩ := hf
  unfold rightF at hr
  simp only [Bool.and_eq_true, decide_eq_true_eq] at hr
  obtain ⟨j1, j2, j3, j4⟩ := prL_ok hr.1.1
  have u2 := unpack_pack (encS f.2.2.1 f.2.2.2.1) (fun x hx => encS_bd _ _ (fun p hp => ⟨k3 p hp, (j4 p hp).2⟩) x hx)
  refine ⟨by omega, fun g hgm => ?_, ?_⟩
  · rw [hg] at hgm
    have := (h1 g hgm).2
    omega
  · rw [hg]
    dsimp only
    rw [dataF_ft, u2]
    exact k2
theorem lyB_put {x : LyP} (hx : LyOkP x) (he : 1 ≤ x.2.1 ∧ x.2.1 ≤ 65536) (hr : x.2.2.all rightF = true) : LyB ((lyP x).flatMap fdput) := by
  obtain ⟨h1, h2⟩ := lyP_good hx he hr
  have hg := get_put (lyP x) fun g hg => (h1 g hg).1
  have hl := lyP_len hx he hr
  refine ⟨by omega, by rw [hg]; dsimp only; omega, fun f hf => ?_⟩
  rw [hg] at hf
  refine ⟨by have := (h1 f hf).2; omega, fun _ => by have := (h1 f hf).2; omega, fun hn => ?_⟩
  unfold lyP lyG at hf
  simp only [List.cons_append, List.mem_cons, List.mem_append, List.mem_map, List.not_mem_nil, or_false] at hf
  rcases hf with rfl | ((⟨g, hg2, rfl⟩ | ⟨k, hk, rfl⟩) | ⟨v, hv, rfl⟩) | rfl | rfl
  · simp at hn
  · exact ftB_put (hx.2.2 g hg2) (List.all_eq_true.1 hr g hg2)
  · simp at hn
  · simp at hn
  · simp at hn
  · simp at hn
theorem tgB_put {l : List LyP} (hl : ∀ x ∈ l, LyOkP x) (hr : rightT l = true) (hn : l.length ≤ 300) : TgB (putT l) := by
  have h1 := rightT_one hr
  have hg := get_put (l.map fun x => (⟨3, 2, 0, (lyP x).flatMap fdput⟩ : FD)) fun g hg => by
    obtain ⟨x, hx, rfl⟩ := List.mem_map.1 hg
    exact ⟨⟨by simp, by simp⟩, .inr (.inr (.inr ⟨rfl, rfl, by have := lyP_len (hl x hx) (h1 x hx).1 (h1 x hx).2; dsimp only; omega⟩))⟩
  have hp := fdputs_le 500000000 (l.map fun x => (⟨3, 2, 0, (lyP x).flatMap fdput⟩ : FD)) fun g hg => by
    obtain ⟨x, hx, rfl⟩ := List.mem_map.1 hg
    exact lyP_len2 (hl x hx) (h1 x hx).2
  rw [List.length_map] at hp
  have hm := Nat.mul_le_mul_right (500000000 + 30) hn
  unfold putT
  refine ⟨by omega, by rw [hg]; dsimp only; rw [List.length_map]; omega, fun f hf _ => ?_⟩
  rw [hg] at hf
  obtain ⟨x, hx, rfl⟩ := List.mem_map.1 hf
  exact lyB_put (hl x hx) (h1 x hx).1 (h1 x hx).2
end Go.Proofs.YtjalimkajcjapaaDoor
