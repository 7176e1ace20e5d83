/- The base point's order; the root of a quotient; the point of its y. -/
import Derived.Test.YtbonnnakebfniaaDoorM6
namespace Num

theorem primeL : IsPrime L := prime_723700557733_76

theorem Pt.mul_gcd (p : Pt) (m n : Nat) (hm : Pt.mul m p = Pt.zero) (hn : Pt.mul n p = Pt.zero) : Pt.mul (Nat.gcd m n) p = Pt.zero := by
  induction m, n using Nat.gcd.induction with
  | H0 n => simpa using hn
  | H1 m n h ih =>
    rw [Nat.gcd_rec]
    refine ih ?_ hm
    have e : Pt.mul n p = (Pt.mul (m * (n / m)) p).add (Pt.mul (n % m) p) := by rw [← Pt.mul_add, Nat.div_add_mod]
    rw [Pt.mul_mul, hm, Pt.mul_zero, Pt.zero_add] at e
    rw [← e, hn]

theorem B_ne : B ≠ Pt.zero := by
  intro h
  have : B.y = Pt.zero.y := by rw [h]
  exact absurd this (by decide +kernel)

theorem ord {n : Nat} (h : Pt.mul n B = Pt.zero) : L ∣ n := by
  have hg := Pt.mul_gcd B n L h LB
  rcases primeL.2 _ (Nat.gcd_dvd_right n L) with h1 | h1
  · rw [h1, Pt.mul_one] at hg
    exact absurd hg B_ne
  · rw [← h1]; exact Nat.gcd_dvd_left n L

theorem dd_ne1 : 1 + dd ≠ 0 := by decide +kernel

theorem y_one {p : Pt} (h : p.y * p.y = 1) : p.add p = Pt.zero := by
  have hon := p.on
  unfold On at hon
  have hx2 : (1 + dd) * (p.x * p.x) = 0 := by grobner
  have hx : p.x = 0 := by
    rcases mul_eq_zero ((mul_eq_zero hx2).resolve_left dd_ne1) with h1 | h1 <;> exact h1
  refine Pt.ext ?_ ?_
  · exact (sx_unique p.on p.on (by simp only [Pt.zero]; rw [hx]; grobner)).symm
  · exact (sy_unique p.on p.on (by simp only [Pt.zero]; rw [hx]; grobner)).symm

/-- A scalar as the code makes it: eight times a number between 2^251 and 2^252. -/
theorem clamp_y {m : Nat} (h1 : 2 ^ 251 ≤ m) (h2 : m < 2 ^ 252) : (Pt.mul (8 * m) B).y * (Pt.mul (8 * m) B).y ≠ 1 := by
  intro h
  have h3 := y_one h
  rw [← Pt.mul_dbl] at h3
  have h4 := ord h3
  rw [show 2 * (8 * m) = 16 * m by omega] at h4
  rcases euclid primeL h4 with h5 | h5
  · have := Nat.le_of_dvd (by decide) h5
    exact absurd this (by decide)
  · have := Nat.le_of_dvd (by omega) h5
    have h6 : 2 ^ 252 ≤ L := by decide
    omega

theorem clamp_u {m : Nat} (h1 : 2 ^ 251 ≤ m) (h2 : m < 2 ^ 252) : uOf (Pt.mul (8 * m) B) ≠ 0 := by
  have h := clamp_y h1 h2
  unfold uOf
  generalize (Pt.mul (8 * m) B).y = y at *
  refine mul_ne_zero ?_ (inv_ne_zero ?_)
  · intro h3
    exact h (by have : y = 0 - 1 := by grobner
                rw [this]; grobner)
  · intro h3
    exact h (by have : y = 1 := by grobner
                rw [this]; grobner)

theorem uB : uOf B = 9 := by
  unfold uOf
  have h : (1 - By) ≠ 0 := by decide +kernel
  have h2 : 9 * (1 - By) = 1 + By := by decide +kernel
  have := mul_inv h
  show (1 + By) * inv (1 - By) = 9
  rw [← h2]
  generalize 1 - By = k at *
  grobner

/-- The root that the code tries first. -/
def root0 (u v : F) : F := u * (v * v * v) * pw (u * (v * v * v * (v * v * v) * v)) ((P - 5) / 8)

theorem root0_sq {v s : F} (hv : v ≠ 0) : root0 (s * s * v) v * root0 (s * s * v) v * v = s * s * v ∨ root0 (s * s * v) v * root0 (s * s * v) v * v = 0 - s * s * v := by
  by_cases hs : s = 0
  · left
    subst hs
    unfold root0
    grobner
  · have hw : s * (v * v * (v * v)) ≠ 0 := mul_ne_zero hs (mul_ne_zero (mul_ne_zero hv hv) (mul_ne_zero hv hv))
    have hu : s * s * v * (v * v * v * (v * v * v) * v) = pw (s * (v * v * (v * v))) 2 := by
      rw [show (2 : Nat) = 1 + 1 from rfl, pw_succ, pw_one]; grobner
    have h2 : ∀ k : F, pw k ((P - 5) / 8) * pw k ((P - 5) / 8) * k = pw k ((P - 1) / 4) := by
      intro k
      rw [← pw_add, ← pw_succ, show (P - 5) / 8 + (P - 5) / 8 + 1 = (P - 1) / 4 by decide]
    have h3 : pw (pw (s * (v * v * (v * v))) 2) ((P - 1) / 4) = pw (s * (v * v * (v * v))) ((P - 1) / 2) := by
      rw [← pw_mul, show 2 * ((P - 1) / 4) = (P - 1) / 2 by decide]
    have h4 : root0 (s * s * v) v * root0 (s * s * v) v * v = s * s * v * pw (s * s * v * (v * v * v * (v * v * v) * v)) ((P - 1) / 4) := by
      unfold root0
      rw [← h2]
      generalize pw (s * s * v * (v * v * v * (v * v * v) * v)) ((P - 5) / 8) = k
      grobner
    rw [h4, hu, h3]
    rcases euler hw with h5 | h5
    · left; rw [h5]; grobner
    · right; rw [h5]; grobner

theorem parity {a : F} (h : a ≠ 0) : (0 - a).val % 2 = 1 - a.val % 2 := by
  have h1 : a.val ≠ 0 := fun h0 => h (Fin.ext h0)
  have h2 := a.isLt
  have : (0 - a).val = P - a.val := by
    rw [Fin.sub_def]
    show (P - a.val + 0) % P = _
    rw [Nat.add_zero, Nat.mod_eq_of_lt (by omega)]
  rw [this]
  have : P % 2 = 1 := by decide
  omega

end Num
