import Derived.Test.YteeeeddeacepmaaGreatDoorRWP
namespace Go.Proofs.YteeeeddeacepmaaGreatDoor
set_option maxRecDepth 100000
open Go.RowKit B
def PtQ.sclQ (s u v : Rat) (p : PtQ) : PtQ := ⟨s * p.x - u, s * p.y - v⟩
theorem psum_map (F : PtQ -> PtQ -> Int) (g : PtQ -> PtQ) : ∀ (l : List PtQ) (a b : PtQ), psum F (g a) (l.map g) (g b) = psum (fun a b => F (g a) (g b)) a l b
 | [], _, _ => rfl
 | x :: l, a, b => by
  show F (g a) (g x) + psum F (g x) (l.map g) (g b) = F (g a) (g x) + psum (fun a b => F (g a) (g b)) x l b; rw [psum_map F g l]
theorem csum_map (F : PtQ -> PtQ -> Int) (g : PtQ -> PtQ) (l : List PtQ) : csum F (l.map g) = csum (fun a b => F (g a) (g b)) l := by
 cases l with
 | nil => rfl
 | cons a l => rw [List.map_cons, csum_cons, csum_cons, psum_map]
section
variable {s u v : Rat}
theorem scl_le (hs : 0 < s) (x y : Rat) : s * x - v <= s * y - v ↔ x <= y := by
 constructor
 ·intro h
  rw [<- Rat.not_lt]; intro hn; have := Rat.mul_pos hs (show 0 < x - y by grind); grind
 ·intro h
  have := Rat.mul_nonneg (show 0 <= s by grind) (show 0 <= y - x by grind); grind
theorem scl_sgn (hs : 0 < s) (D : Rat) : (0 < s * (s * D) ↔ 0 < D) /\ (s * (s * D) < 0 ↔ D < 0) := by
 have h2 := Rat.mul_pos hs hs
 constructor
 ·constructor
  ·intro h
   rw [<- Rat.not_le]; intro hn; have := Rat.mul_nonneg (show 0 <= s * s by grind) (show 0 <= -D by grind); grind
  ·intro h
   have := Rat.mul_pos h2 h; grind
 ·constructor
  ·intro h
   rw [<- Rat.not_le]; intro hn; have := Rat.mul_nonneg (show 0 <= s * s by grind) hn; grind
  ·intro h
   have := Rat.mul_pos h2 (show 0 < -D by grind); grind
theorem side_scl (a b p : PtQ) : sideQ (a.sclQ s u v) (b.sclQ s u v) (p.sclQ s u v) = s * (s * sideQ a b p) := by
 unfold sideQ PtQ.sclQ; dsimp only; grind
theorem chi_scl (hs : 0 < s) (p a b : PtQ) : chiQ (p.sclQ s u v) (a.sclQ s u v) (b.sclQ s u v) = chiQ p a b := by
 rw [chi_val, chi_val, side_scl]; obtain ⟨g1, g2⟩ := scl_sgn hs (sideQ a b p); have e1 : (a.sclQ s u v).y <= (p.sclQ s u v).y ↔ a.y <= p.y := scl_le hs _ _; have e2 : (b.sclQ s u v).y <= (p.sclQ s u v).y ↔ b.y <= p.y := scl_le hs _ _; simp only [g1, g2, e1, e2]
theorem touch_scl (hs : 0 < s) (p a b : PtQ) : touchI (p.sclQ s u v) (a.sclQ s u v) (b.sclQ s u v) = touchI p a b := by
 have key : ∀ (px ax bx r u : Rat), s * px - u = s * ax - u + r * (s * bx - u - (s * ax - u)) ↔ px = ax + r * (bx - ax) := by
  intro px ax bx r u
  constructor
  ·intro h
   have h2 : s * (px - (ax + r * (bx - ax))) = 0 := by grind
   rcases Rat.mul_eq_zero.1 h2 with h3 | h3
   ·grind
   ·grind
  ·intro h
   rw [h]; grind
 have : touchQ (a.sclQ s u v) (b.sclQ s u v) (p.sclQ s u v) = true ↔ touchQ a b p = true := by
  rw [touch_iff, touch_iff]; unfold PtQ.sclQ; dsimp only; simp only [key]
 unfold touchI
 by_cases h : touchQ a b p = true
 ·rw [if_pos h, if_pos (this.2 h)]
 ·rw [if_neg h, if_neg (fun h2 => h (this.1 h2))]
theorem wind_scl (hs : 0 < s) (l : List PtQ) (p : PtQ) : windQ (l.map (PtQ.sclQ s u v)) (p.sclQ s u v) = windQ l p := by
 unfold windQ; rw [csum_map, csum_map]; have e1 : (fun a b => touchI (p.sclQ s u v) (PtQ.sclQ s u v a) (PtQ.sclQ s u v b)) = touchI p := funext fun a => funext fun b => touch_scl hs p a b
 have e2 : (fun a b => chiQ (p.sclQ s u v) (PtQ.sclQ s u v a) (PtQ.sclQ s u v b)) = chiQ p := funext fun a => funext fun b => chi_scl hs p a b
 rw [e1, e2]
end
theorem scl_pq (z : Zm) (e : Int) (p : Pt) : (scl z e p).pq = p.pq.sclQ ((pw z.up : Int) : Rat) ((z.x * e : Int) : Rat) ((z.y * e : Int) : Rat) := by
 unfold scl Pt.pq PtQ.sclQ; dsimp only; rw [PtQ.mk.injEq]
 constructor <;> (push_cast; grind)
theorem top_wind {z : Zm} {e lo hi : Int} {l : List Pt} {p : PtQ} (h1 : (lo : Rat) < p.x) (h2 : p.x < (hi : Rat)) (h3 : (lo : Rat) < p.y) (h4 : p.y < (hi : Rat)) :
  windQ (clip25Q (l.map (scl z e)) lo hi) p = windQ (l.map Pt.pq) ⟨(p.x + ((z.x * e : Int) : Rat)) / ((pw z.up : Int) : Rat), (p.y + ((z.y * e : Int) : Rat)) / ((pw z.up : Int) : Rat)⟩ := by
 rw [clip_wind h1 h2 h3 h4]; have hs : (0 : Rat) < ((pw z.up : Int) : Rat) := cast_pos (pw_pos _)
 have em : (l.map (scl z e)).map Pt.pq = (l.map Pt.pq).map (PtQ.sclQ ((pw z.up : Int) : Rat) ((z.x * e : Int) : Rat) ((z.y * e : Int) : Rat)) := by
  rw [List.map_map, List.map_map]; exact List.map_congr_left fun q _ => scl_pq z e q
 rw [em]; generalize ((pw z.up : Int) : Rat) = s at *; generalize ((z.x * e : Int) : Rat) = u; generalize ((z.y * e : Int) : Rat) = v; obtain ⟨px, py⟩ := p; dsimp only
 have ep : (⟨px, py⟩ : PtQ) = PtQ.sclQ s u v ⟨(px + u) / s, (py + v) / s⟩ := by
  unfold PtQ.sclQ; dsimp only; rw [PtQ.mk.injEq]
  constructor <;> grind
 rw [ep, wind_scl hs]
end Go.Proofs.YteeeeddeacepmaaGreatDoor
