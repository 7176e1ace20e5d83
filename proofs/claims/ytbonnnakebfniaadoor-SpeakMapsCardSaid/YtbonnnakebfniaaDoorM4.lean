/- The Edwards curve -x^2 + y^2 = 1 + d x^2 y^2 over the field: its points are a commutative group. -/
import Derived.Test.YtbonnnakebfniaaDoorM3
namespace Num

def dd : F := 37095705934669439343138083508754565189542113879843219016388785533085940283555
theorem dd_eq : dd * 121666 + 121665 = 0 := by decide +kernel
theorem dd_ne : dd ≠ 0 := by decide +kernel

/-- d is no square. -/
theorem dd_pw : pw dd ((P - 1) / 2) = 0 - 1 := by
  apply Fin.ext
  rw [pw_val]
  have h : (P - 1) / 2 < 2 ^ 256 := by decide
  rw [← pm_eq dd.val P 256 _ h]
  decide +kernel

theorem dd_nonsquare (s : F) : s * s ≠ dd := by
  intro h
  have h1 := square_pw dd_ne h
  rw [dd_pw] at h1
  exact absurd h1 (by decide +kernel)

/-- No square times a nonzero square makes d: neither does one of minus d. -/
theorem dd_no (u v : F) (hv : v ≠ 0) : u * u ≠ dd * (v * v) := by
  intro h
  have hi := mul_inv hv
  refine dd_nonsquare (u * inv v) ?_
  have : dd = dd * ((v * inv v) * (v * inv v)) := by rw [hi]; grobner
  rw [this]
  grobner

/-- On the curve. -/
def On (x y : F) : Prop := y * y - x * x = 1 + dd * x * x * y * y

theorem complete {x1 y1 x2 y2 e : F} (h1 : On x1 y1) (h2 : On x2 y2) (he : e * e = 1) : dd * x1 * x2 * y1 * y2 ≠ e := by
  intro h
  unfold On at h1 h2
  have hi := ii_sq
  have key : ∀ s : F, s * s = 1 → (ii * x1 + s * e * y1) * (ii * x1 + s * e * y1) = dd * (x1 * y1 * (ii * x2 + s * y2)) * (x1 * y1 * (ii * x2 + s * y2)) := by
    intro s hs
    grobner
  have hne : e ≠ 0 := by
    rintro rfl
    exact absurd he (by decide)
  have hxy : x1 * y1 ≠ 0 := by
    intro h0
    apply hne
    rw [← h]
    grobner
  have z : ∀ s : F, s * s = 1 → ii * x2 + s * y2 = 0 := by
    intro s hs
    refine Classical.byContradiction fun hz => ?_
    refine dd_no (ii * x1 + s * e * y1) (x1 * y1 * (ii * x2 + s * y2)) (mul_ne_zero hxy hz) ?_
    rw [key s hs]
    grobner
  have z1 := z 1 (by decide)
  have z2 := z (0 - 1) (by decide +kernel)
  have h2y : y2 * 2 = 0 := by grobner
  have hy : y2 = 0 := (mul_eq_zero h2y).resolve_right two_ne
  apply hne
  rw [← h, hy]
  grobner

theorem den_p {x1 y1 x2 y2 : F} (h1 : On x1 y1) (h2 : On x2 y2) : 1 + dd * x1 * x2 * y1 * y2 ≠ 0 := by
  intro h
  exact complete (e := 0 - 1) h1 h2 (by decide +kernel) (by grobner)
theorem den_m {x1 y1 x2 y2 : F} (h1 : On x1 y1) (h2 : On x2 y2) : 1 - dd * x1 * x2 * y1 * y2 ≠ 0 := by
  intro h
  exact complete (e := 1) h1 h2 (by decide) (by grobner)

/-- The sum's coordinates. -/
noncomputable def sx (x1 y1 x2 y2 : F) : F := (x1 * y2 + x2 * y1) * inv (1 + dd * x1 * x2 * y1 * y2)
noncomputable def sy (x1 y1 x2 y2 : F) : F := (y1 * y2 + x1 * x2) * inv (1 - dd * x1 * x2 * y1 * y2)

theorem sx_eq {x1 y1 x2 y2 : F} (h1 : On x1 y1) (h2 : On x2 y2) : sx x1 y1 x2 y2 * (1 + dd * x1 * x2 * y1 * y2) = x1 * y2 + x2 * y1 := by
  have := mul_inv (den_p h1 h2)
  unfold sx
  grobner
theorem sy_eq {x1 y1 x2 y2 : F} (h1 : On x1 y1) (h2 : On x2 y2) : sy x1 y1 x2 y2 * (1 - dd * x1 * x2 * y1 * y2) = y1 * y2 + x1 * x2 := by
  have := mul_inv (den_m h1 h2)
  unfold sy
  grobner

/-- What has the sum's coordinate's property is it. -/
theorem sx_unique {x1 y1 x2 y2 x : F} (h1 : On x1 y1) (h2 : On x2 y2) (h : x * (1 + dd * x1 * x2 * y1 * y2) = x1 * y2 + x2 * y1) : x = sx x1 y1 x2 y2 := by
  have e := sx_eq h1 h2
  exact cancel (den_p h1 h2) (by grobner)
theorem sy_unique {x1 y1 x2 y2 y : F} (h1 : On x1 y1) (h2 : On x2 y2) (h : y * (1 - dd * x1 * x2 * y1 * y2) = y1 * y2 + x1 * x2) : y = sy x1 y1 x2 y2 := by
  have e := sy_eq h1 h2
  exact cancel (den_m h1 h2) (by grobner)

theorem on_sum_poly (d x1 y1 x2 y2 X Y : F) (h1 : y1 * y1 - x1 * x1 = 1 + d * x1 * x1 * y1 * y1) (h2 : y2 * y2 - x2 * x2 = 1 + d * x2 * x2 * y2 * y2)
    (hx : X * (1 + d * x1 * x2 * y1 * y2) = x1 * y2 + x2 * y1) (hy : Y * (1 - d * x1 * x2 * y1 * y2) = y1 * y2 + x1 * x2) :
    (1 + d * x1 * x2 * y1 * y2) * (1 + d * x1 * x2 * y1 * y2) * ((1 - d * x1 * x2 * y1 * y2) * (1 - d * x1 * x2 * y1 * y2)) * (Y * Y - X * X) =
    (1 + d * x1 * x2 * y1 * y2) * (1 + d * x1 * x2 * y1 * y2) * ((1 - d * x1 * x2 * y1 * y2) * (1 - d * x1 * x2 * y1 * y2)) * (1 + d * X * X * Y * Y) := by
  have e : (1 + d * x1 * x2 * y1 * y2) * (1 + d * x1 * x2 * y1 * y2) * ((1 - d * x1 * x2 * y1 * y2) * (1 - d * x1 * x2 * y1 * y2)) * (Y * Y - X * X) =
      (Y * (1 - d * x1 * x2 * y1 * y2)) * (Y * (1 - d * x1 * x2 * y1 * y2)) * ((1 + d * x1 * x2 * y1 * y2) * (1 + d * x1 * x2 * y1 * y2)) -
      (X * (1 + d * x1 * x2 * y1 * y2)) * (X * (1 + d * x1 * x2 * y1 * y2)) * ((1 - d * x1 * x2 * y1 * y2) * (1 - d * x1 * x2 * y1 * y2)) := by grobner
  have f : (1 + d * x1 * x2 * y1 * y2) * (1 + d * x1 * x2 * y1 * y2) * ((1 - d * x1 * x2 * y1 * y2) * (1 - d * x1 * x2 * y1 * y2)) * (1 + d * X * X * Y * Y) =
      (1 + d * x1 * x2 * y1 * y2) * (1 + d * x1 * x2 * y1 * y2) * ((1 - d * x1 * x2 * y1 * y2) * (1 - d * x1 * x2 * y1 * y2)) +
      d * ((X * (1 + d * x1 * x2 * y1 * y2)) * (X * (1 + d * x1 * x2 * y1 * y2))) * ((Y * (1 - d * x1 * x2 * y1 * y2)) * (Y * (1 - d * x1 * x2 * y1 * y2))) := by grobner
  rw [e, f, hx, hy]
  clear e f hx hy
  grobner

theorem on_sum {x1 y1 x2 y2 : F} (h1 : On x1 y1) (h2 : On x2 y2) : On (sx x1 y1 x2 y2) (sy x1 y1 x2 y2) := by
  have hp := den_p h1 h2
  have hm := den_m h1 h2
  exact cancel (mul_ne_zero (mul_ne_zero hp hp) (mul_ne_zero hm hm)) (on_sum_poly dd x1 y1 x2 y2 _ _ h1 h2 (sx_eq h1 h2) (sy_eq h1 h2))

/-- A point of the curve. -/
structure Pt where
  x : F
  y : F
  on : On x y

theorem Pt.ext {p q : Pt} (hx : p.x = q.x) (hy : p.y = q.y) : p = q := by
  cases p; cases q; cases hx; cases hy; rfl

noncomputable def Pt.add (p q : Pt) : Pt := ⟨sx p.x p.y q.x q.y, sy p.x p.y q.x q.y, on_sum p.on q.on⟩
def Pt.zero : Pt := ⟨0, 1, by unfold On; grobner⟩
def Pt.neg (p : Pt) : Pt := ⟨0 - p.x, p.y, by have := p.on; unfold On at *; grobner⟩

theorem Pt.add_comm (p q : Pt) : p.add q = q.add p := by
  refine Pt.ext ?_ ?_
  · exact sx_unique q.on p.on (by have := sx_eq p.on q.on; simp only [Pt.add]; grobner)
  · exact sy_unique q.on p.on (by have := sy_eq p.on q.on; simp only [Pt.add]; grobner)

theorem Pt.zero_add (p : Pt) : Pt.zero.add p = p := by
  refine Pt.ext ?_ ?_
  · exact (sx_unique Pt.zero.on p.on (by simp only [Pt.zero]; grobner)).symm
  · exact (sy_unique Pt.zero.on p.on (by simp only [Pt.zero]; grobner)).symm

theorem Pt.neg_add (p : Pt) : p.neg.add p = Pt.zero := by
  refine Pt.ext ?_ ?_
  · exact (sx_unique p.neg.on p.on (by simp only [Pt.zero, Pt.neg]; grobner)).symm
  · exact (sy_unique p.neg.on p.on (by have := p.on; unfold On at this; simp only [Pt.zero, Pt.neg]; grobner)).symm

theorem assoc_poly_x (d x1 y1 x2 y2 x3 y3 X Y U V : F) (h1 : y1 * y1 - x1 * x1 = 1 + d * x1 * x1 * y1 * y1) (h2 : y2 * y2 - x2 * x2 = 1 + d * x2 * x2 * y2 * y2) (h3 : y3 * y3 - x3 * x3 = 1 + d * x3 * x3 * y3 * y3)
    (hX : X * (1 + d * x1 * x2 * y1 * y2) = x1 * y2 + x2 * y1) (hY : Y * (1 - d * x1 * x2 * y1 * y2) = y1 * y2 + x1 * x2)
    (hU : U * (1 + d * x2 * x3 * y2 * y3) = x2 * y3 + x3 * y2) (hV : V * (1 - d * x2 * x3 * y2 * y3) = y2 * y3 + x2 * x3) :
    ((1 + d * x1 * x2 * y1 * y2) * (1 - d * x1 * x2 * y1 * y2)) * ((1 + d * x2 * x3 * y2 * y3) * (1 - d * x2 * x3 * y2 * y3)) * ((X * y3 + x3 * Y) * (1 + d * x1 * U * y1 * V)) =
    ((1 + d * x1 * x2 * y1 * y2) * (1 - d * x1 * x2 * y1 * y2)) * ((1 + d * x2 * x3 * y2 * y3) * (1 - d * x2 * x3 * y2 * y3)) * ((x1 * V + U * y1) * (1 + d * X * x3 * Y * y3)) := by
  generalize hA : 1 + d * x1 * x2 * y1 * y2 = A at *
  generalize hB : 1 - d * x1 * x2 * y1 * y2 = B at *
  generalize hC : 1 + d * x2 * x3 * y2 * y3 = C at *
  generalize hD : 1 - d * x2 * x3 * y2 * y3 = D at *
  have e : (A * B) * (C * D) * ((X * y3 + x3 * Y) * (1 + d * x1 * U * y1 * V)) = ((X * A) * B * y3 + x3 * (Y * B) * A) * (C * D + d * x1 * y1 * (U * C) * (V * D)) := by grobner
  have f : (A * B) * (C * D) * ((x1 * V + U * y1) * (1 + d * X * x3 * Y * y3)) = (x1 * (V * D) * C + (U * C) * y1 * D) * (A * B + d * x3 * y3 * (X * A) * (Y * B)) := by grobner
  rw [e, f, hX, hY, hU, hV, ← hA, ← hB, ← hC, ← hD]
  clear e f hX hY hU hV hA hB hC hD A B C D X Y U V
  grobner

theorem assoc_poly_y (d x1 y1 x2 y2 x3 y3 X Y U V : F) (h1 : y1 * y1 - x1 * x1 = 1 + d * x1 * x1 * y1 * y1) (h2 : y2 * y2 - x2 * x2 = 1 + d * x2 * x2 * y2 * y2) (h3 : y3 * y3 - x3 * x3 = 1 + d * x3 * x3 * y3 * y3)
    (hX : X * (1 + d * x1 * x2 * y1 * y2) = x1 * y2 + x2 * y1) (hY : Y * (1 - d * x1 * x2 * y1 * y2) = y1 * y2 + x1 * x2)
    (hU : U * (1 + d * x2 * x3 * y2 * y3) = x2 * y3 + x3 * y2) (hV : V * (1 - d * x2 * x3 * y2 * y3) = y2 * y3 + x2 * x3) :
    ((1 + d * x1 * x2 * y1 * y2) * (1 - d * x1 * x2 * y1 * y2)) * ((1 + d * x2 * x3 * y2 * y3) * (1 - d * x2 * x3 * y2 * y3)) * ((Y * y3 + X * x3) * (1 - d * x1 * U * y1 * V)) =
    ((1 + d * x1 * x2 * y1 * y2) * (1 - d * x1 * x2 * y1 * y2)) * ((1 + d * x2 * x3 * y2 * y3) * (1 - d * x2 * x3 * y2 * y3)) * ((y1 * V + x1 * U) * (1 - d * X * x3 * Y * y3)) := by
  generalize hA : 1 + d * x1 * x2 * y1 * y2 = A at *
  generalize hB : 1 - d * x1 * x2 * y1 * y2 = B at *
  generalize hC : 1 + d * x2 * x3 * y2 * y3 = C at *
  generalize hD : 1 - d * x2 * x3 * y2 * y3 = D at *
  have e : (A * B) * (C * D) * ((Y * y3 + X * x3) * (1 - d * x1 * U * y1 * V)) = ((Y * B) * A * y3 + (X * A) * B * x3) * (C * D - d * x1 * y1 * (U * C) * (V * D)) := by grobner
  have f : (A * B) * (C * D) * ((y1 * V + x1 * U) * (1 - d * X * x3 * Y * y3)) = (y1 * (V * D) * C + x1 * (U * C) * D) * (A * B - d * x3 * y3 * (X * A) * (Y * B)) := by grobner
  rw [e, f, hX, hY, hU, hV, ← hA, ← hB, ← hC, ← hD]
  clear e f hX hY hU hV hA hB hC hD A B C D X Y U V
  grobner

theorem fin_poly (S D B n C : F) (h1 : S * D = n) (h2 : n * B = C * D) : D * (S * B) = D * C := by
  subst h1
  grobner

theorem Pt.add_assoc (p q r : Pt) : (p.add q).add r = p.add (q.add r) := by
  have n1 := mul_ne_zero (mul_ne_zero (den_p p.on q.on) (den_m p.on q.on)) (mul_ne_zero (den_p q.on r.on) (den_m q.on r.on))
  have hX := sx_eq p.on q.on
  have hY := sy_eq p.on q.on
  have hU := sx_eq q.on r.on
  have hV := sy_eq q.on r.on
  refine Pt.ext ?_ ?_
  · refine sx_unique p.on (q.add r).on ?_
    have hS := sx_eq (p.add q).on r.on
    have h := cancel n1 (assoc_poly_x dd p.x p.y q.x q.y r.x r.y _ _ _ _ p.on q.on r.on hX hY hU hV)
    refine cancel (den_p (p.add q).on r.on) ?_
    exact fin_poly _ _ _ _ _ hS h
  · refine sy_unique p.on (q.add r).on ?_
    have hS := sy_eq (p.add q).on r.on
    have h := cancel n1 (assoc_poly_y dd p.x p.y q.x q.y r.x r.y _ _ _ _ p.on q.on r.on hX hY hU hV)
    refine cancel (den_m (p.add q).on r.on) ?_
    exact fin_poly _ _ _ _ _ hS h

end Num
