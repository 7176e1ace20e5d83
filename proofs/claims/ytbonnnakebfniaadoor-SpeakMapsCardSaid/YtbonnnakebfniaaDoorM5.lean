/- Multiples of a point; the ladder's steps on u = (1 + y) / (1 - y); the sum in four coordinates. -/
import Derived.Test.YtbonnnakebfniaaDoorM4
namespace Num

noncomputable def Pt.mul : Nat → Pt → Pt
  | 0, _ => Pt.zero
  | n + 1, p => (Pt.mul n p).add p

theorem Pt.add_zero (p : Pt) : p.add Pt.zero = p := by rw [Pt.add_comm, Pt.zero_add]

theorem Pt.mul_one (p : Pt) : Pt.mul 1 p = p := Pt.zero_add p

theorem Pt.mul_add (m n : Nat) (p : Pt) : Pt.mul (m + n) p = (Pt.mul m p).add (Pt.mul n p) := by
  induction n with
  | zero => exact (Pt.add_zero _).symm
  | succ n ih =>
    show (Pt.mul (m + n) p).add p = _
    rw [ih, Pt.add_assoc]; rfl

theorem Pt.mul_zero (n : Nat) : Pt.mul n Pt.zero = Pt.zero := by
  induction n with
  | zero => rfl
  | succ n ih =>
    show (Pt.mul n Pt.zero).add Pt.zero = _
    rw [ih, Pt.add_zero]

theorem Pt.mul_mul (m n : Nat) (p : Pt) : Pt.mul (m * n) p = Pt.mul n (Pt.mul m p) := by
  induction n with
  | zero => rfl
  | succ n ih => rw [Nat.mul_succ, Pt.mul_add, ih]; rfl

theorem Pt.mul_dbl (n : Nat) (p : Pt) : Pt.mul (2 * n) p = (Pt.mul n p).add (Pt.mul n p) := by
  rw [show 2 * n = n + n by omega, Pt.mul_add]

/-- X and Z say the point: X / Z is (1 + y) / (1 - y). -/
def Rep (X Z : F) (p : Pt) : Prop := ∃ l : F, l ≠ 0 ∧ X = l * (1 + p.y) ∧ Z = l * (1 - p.y)

theorem half : (2 : F) * inv 2 = 1 := mul_inv two_ne

theorem rep_of {X Z : F} {p : Pt} (h : X * (1 - p.y) = Z * (1 + p.y)) (hne : X ≠ 0 ∨ Z ≠ 0) : Rep X Z p := by
  have h2 := half
  unfold Rep
  generalize p.y = y at *
  refine ⟨(X + Z) * inv 2, ?_, by grobner, by grobner⟩
  intro h0
  have hs : X + Z = 0 := (mul_eq_zero h0).resolve_right (inv_ne_zero two_ne)
  have hX : X * 2 = 0 := by grobner
  have hX0 : X = 0 := (mul_eq_zero hX).resolve_right two_ne
  rcases hne with h1 | h1
  · exact h1 hX0
  · exact h1 (by grobner)

theorem rep_zero : Rep 1 0 Pt.zero := rep_of (by simp only [Pt.zero]; grobner) (.inl one_ne)

theorem den_y {x y : F} (h : On x y) : 1 + dd * (y * y) ≠ 0 := by
  intro h0
  unfold On at h
  have hd := dd_eq
  have hy : y * y = 1 := by grobner
  have : dd = 0 - 1 := by grobner
  exact absurd this (by decide +kernel)

theorem four_ne : (4 : F) ≠ 0 := by decide
theorem n121666_ne : (121666 : F) ≠ 0 := by decide

/-- w (1 + x^2) = y^2 where w = 1 + 121665 (1 - y^2). -/
theorem dbl_key {x y : F} (h : On x y) : (1 + 121665 * (1 - y * y)) * (1 + x * x) = y * y := by
  have hd := dd_eq
  refine cancel (den_y h) ?_
  unfold On at h
  have h1 : (1 + dd * (y * y)) * (1 + x * x) = y * y * (1 + dd) := by grobner
  have h2 : 121666 * (1 + dd) = 1 := by grobner
  have h3 : 121666 * (1 + dd * (y * y)) = 1 + 121665 * (1 - y * y) := by grobner
  generalize 1 + 121665 * (1 - y * y) = w at *
  generalize 1 + dd * (y * y) = z at *
  have h4 : z * (w * (1 + x * x)) = w * (z * (1 + x * x)) := by grobner
  rw [h4, h1, ← h3]
  grobner

theorem rep_dbl {X Z : F} {p : Pt} (h : Rep X Z p) :
    Rep ((X + Z) * (X + Z) * ((X - Z) * (X - Z))) (((X + Z) * (X + Z) - (X - Z) * (X - Z)) * ((X + Z) * (X + Z) + 121665 * ((X + Z) * (X + Z) - (X - Z) * (X - Z)))) (p.add p) := by
  obtain ⟨l, hl, rfl, rfl⟩ := h
  have hk := dbl_key p.on
  have hY := sy_eq p.on p.on
  have hm := den_m p.on p.on
  have hon := p.on
  unfold On at hon
  have e1 : l * (1 + p.y) + l * (1 - p.y) = 2 * l := by grobner
  have e2 : l * (1 + p.y) - l * (1 - p.y) = 2 * l * p.y := by grobner
  rw [e1, e2]
  have hw : (p.add p).y = sy p.x p.y p.x p.y := rfl
  refine rep_of ?_ ?_
  · rw [hw]
    refine cancel hm ?_
    generalize sy p.x p.y p.x p.y = Y at *
    generalize p.x = x at *
    generalize p.y = y at *
    generalize hD : 1 - dd * x * x * y * y = D at *
    have hD2 : D = 2 - y * y + x * x := by grobner
    have a1 : D * (2 * l * (2 * l) * (2 * l * y * (2 * l * y)) * (1 - Y)) = 16 * (l * l * l * l) * (y * y) * (D - Y * D) := by grobner
    have a2 : D * ((2 * l * (2 * l) - 2 * l * y * (2 * l * y)) * (2 * l * (2 * l) + 121665 * (2 * l * (2 * l) - 2 * l * y * (2 * l * y))) * (1 + Y)) =
        16 * (l * l * l * l) * ((1 - y * y) * ((1 + 121665 * (1 - y * y)) * (D + Y * D))) := by grobner
    rw [a1, a2, hY, hD2]
    have a3 : (1 + 121665 * (1 - y * y)) * (2 - y * y + x * x + (y * y + x * x)) = 2 * (y * y) := by rw [← hk]; grobner
    rw [a3]
    grobner
  · generalize p.x = x at *
    generalize p.y = y at *
    by_cases hy : y = 0
    · right
      subst hy
      have : (2 * l * (2 * l) - 2 * l * 0 * (2 * l * 0)) * (2 * l * (2 * l) + 121665 * (2 * l * (2 * l) - 2 * l * 0 * (2 * l * 0))) = (l * l) * (l * l) * (4 * 4 * 121666) := by grobner
      rw [this]
      exact mul_ne_zero (mul_ne_zero (mul_ne_zero hl hl) (mul_ne_zero hl hl)) (by decide)
    · left
      exact mul_ne_zero (mul_ne_zero (mul_ne_zero two_ne hl) (mul_ne_zero two_ne hl)) (mul_ne_zero (mul_ne_zero (mul_ne_zero two_ne hl) hy) (mul_ne_zero (mul_ne_zero two_ne hl) hy))

theorem diff_poly (d xa ya xb yb : F) (ha : ya * ya - xa * xa = 1 + d * xa * xa * ya * ya) (hb : yb * yb - xb * xb = 1 + d * xb * xb * yb * yb) :
    (ya + yb) * (ya + yb) * ((1 + d * xa * xb * ya * yb - ya * yb + xa * xb) * (1 - d * xa * xb * ya * yb - ya * yb - xa * xb)) =
    (yb - ya) * (yb - ya) * ((1 + d * xa * xb * ya * yb + ya * yb - xa * xb) * (1 - d * xa * xb * ya * yb + ya * yb + xa * xb)) := by
  grobner

/-- The difference's y. -/
theorem diff_y {p q r : Pt} (h : q = p.add r) : r.y * (1 + dd * p.x * q.x * p.y * q.y) = p.y * q.y - p.x * q.x := by
  have hr : r = p.neg.add q := by rw [h, ← Pt.add_assoc, Pt.neg_add, Pt.zero_add]
  have hy := sy_eq p.neg.on q.on
  have : r.y = sy p.neg.x p.neg.y q.x q.y := by rw [hr]; rfl
  rw [← this] at hy
  simp only [Pt.neg] at hy
  grobner

theorem diff_fin (A Y R S T n1 n2 n3 n4 a b : F) (hY : Y * T = n1) (hR : R * S = n2) (h3 : n3 = T - n1) (h4 : n4 = S - n2) (h : a * (n4 * n3) = b * ((S + n2) * (T + n1))) (x1 : F) (hx : x1 * (1 - R) = 1 + R) :
    S * T * (1 - R) * (A * a * (1 - Y)) = S * T * (1 - R) * (A * (x1 * b) * (1 + Y)) := by
  subst h3 h4 hY hR
  have e1 : S * T * (1 - R) * (A * a * (1 - Y)) = A * (a * ((S - R * S) * (T - Y * T))) := by grobner
  have e2 : S * T * (1 - R) * (A * (x1 * b) * (1 + Y)) = A * (b * ((S * (x1 * (1 - R))) * (T + Y * T))) := by grobner
  rw [e1, e2, h, hx]
  grobner

theorem diff_shape (k L s u x1 Y : F) (h : k * (L * L * (s * s) * (1 - Y)) = k * (L * L * (x1 * (u * u)) * (1 + Y))) : k * (L * s * (L * s) * (1 - Y)) = k * (x1 * (L * u * (L * u)) * (1 + Y)) := by
  grobner

theorem rep_add {Xa Za Xb Zb x1 : F} {p q r : Pt} (ha : Rep Xa Za p) (hb : Rep Xb Zb q) (h : q = p.add r) (hx : x1 * (1 - r.y) = 1 + r.y) (hx0 : x1 ≠ 0) (hr1 : r.y ≠ 1) :
    Rep (((Xb - Zb) * (Xa + Za) + (Xb + Zb) * (Xa - Za)) * ((Xb - Zb) * (Xa + Za) + (Xb + Zb) * (Xa - Za)))
      (x1 * (((Xb - Zb) * (Xa + Za) - (Xb + Zb) * (Xa - Za)) * ((Xb - Zb) * (Xa + Za) - (Xb + Zb) * (Xa - Za)))) (p.add q) := by
  obtain ⟨la, hla, rfl, rfl⟩ := ha
  obtain ⟨lb, hlb, rfl, rfl⟩ := hb
  have hR := diff_y h
  have hY := sy_eq p.on q.on
  have hw : (p.add q).y = sy p.x p.y q.x q.y := rfl
  have hS := den_p p.on q.on
  have hT := den_m p.on q.on
  have hp := p.on
  have hq := q.on
  unfold On at hp hq
  have hr0 : 1 - r.y ≠ 0 := fun h0 => hr1 (by grobner)
  have hL : 4 * (la * lb) ≠ 0 := mul_ne_zero four_ne (mul_ne_zero hla hlb)
  have e1 : (lb * (1 + q.y) - lb * (1 - q.y)) * (la * (1 + p.y) + la * (1 - p.y)) + (lb * (1 + q.y) + lb * (1 - q.y)) * (la * (1 + p.y) - la * (1 - p.y)) = 4 * (la * lb) * (p.y + q.y) := by grobner
  have e2 : (lb * (1 + q.y) - lb * (1 - q.y)) * (la * (1 + p.y) + la * (1 - p.y)) - (lb * (1 + q.y) + lb * (1 - q.y)) * (la * (1 + p.y) - la * (1 - p.y)) = 4 * (la * lb) * (q.y - p.y) := by grobner
  rw [e1, e2]
  have hpoly := diff_poly dd p.x p.y q.x q.y hp hq
  refine rep_of ?_ ?_
  · rw [hw]
    have hfin := diff_fin (4 * (la * lb) * (4 * (la * lb))) (sy p.x p.y q.x q.y) r.y _ _ _ _ (1 - dd * p.x * q.x * p.y * q.y - (p.y * q.y + p.x * q.x)) (1 + dd * p.x * q.x * p.y * q.y - (p.y * q.y - p.x * q.x))
      ((p.y + q.y) * (p.y + q.y)) ((q.y - p.y) * (q.y - p.y)) hY hR rfl rfl (by
        clear hR hY hw hx e1 e2 hp hq hS hT
        generalize p.x = xa at *
        generalize p.y = ya at *
        generalize q.x = xb at *
        generalize q.y = yb at *
        generalize dd * xa * xb * ya * yb = t at *
        grobner) x1 hx
    refine cancel (mul_ne_zero (mul_ne_zero hS hT) hr0) ?_
    exact diff_shape _ _ _ _ _ _ hfin
  · by_cases h1 : p.y + q.y = 0
    · right
      by_cases h2 : q.y - p.y = 0
      · exfalso
        have hq0 : q.y * 2 = 0 := by grobner
        have hqy : q.y = 0 := (mul_eq_zero hq0).resolve_right two_ne
        have hpy : p.y = 0 := by grobner
        rw [hpy, hqy] at hR
        rw [hpy] at hp
        rw [hqy] at hq
        have hrr : r.y * r.y = 1 := by grobner
        have : r.y = 1 ∨ r.y = 0 - 1 := sq_eq (by grobner)
        rcases this with h3 | h3
        · exact hr1 h3
        · rw [h3] at hx
          have h5 : x1 * 2 = 0 := by grobner
          exact hx0 ((mul_eq_zero h5).resolve_right two_ne)
      · exact mul_ne_zero hx0 (mul_ne_zero (mul_ne_zero hL h2) (mul_ne_zero hL h2))
    · left
      exact mul_ne_zero (mul_ne_zero hL h1) (mul_ne_zero hL h1)

end Num
