/- The field of 2^255 - 19 elements, as Lean's Fin: powers, inverses, squares. -/
import Derived.Test.YtbonnnakebfniaaDoorM2
namespace Num

abbrev P : Nat := 57896044618658097711785492504343953926634992332820282019728792003956564819949
abbrev F := Fin P
instance : NeZero P := ⟨by decide⟩

theorem primeP : IsPrime P := prime_578960446186_77

/-- Powers, kept apart from Lean's own. -/
def pw (a : F) : Nat → F
  | 0 => 1
  | n + 1 => pw a n * a

theorem pw_zero (a : F) : pw a 0 = 1 := rfl
theorem pw_succ (a : F) (n : Nat) : pw a (n + 1) = pw a n * a := rfl
theorem pw_one (a : F) : pw a 1 = a := by rw [pw_succ, pw_zero]; grind

theorem pw_add (a : F) (m n : Nat) : pw a (m + n) = pw a m * pw a n := by
  induction n with
  | zero => rw [Nat.add_zero, pw_zero]; grind
  | succ n ih => rw [← Nat.add_assoc, pw_succ, pw_succ, ih]; grind

theorem pw_mul (a : F) (m n : Nat) : pw a (m * n) = pw (pw a m) n := by
  induction n with
  | zero => rfl
  | succ n ih => rw [Nat.mul_succ, pw_add, pw_succ, ih]

theorem mul_pw (a b : F) (n : Nat) : pw (a * b) n = pw a n * pw b n := by
  induction n with
  | zero => rw [pw_zero, pw_zero, pw_zero]; grind
  | succ n ih => rw [pw_succ, pw_succ, pw_succ, ih]; grind

theorem one_pw (n : Nat) : pw 1 n = 1 := by
  induction n with
  | zero => rfl
  | succ n ih => rw [pw_succ, ih]; grind

theorem zero_pw (n : Nat) (h : 0 < n) : pw 0 n = 0 := by
  obtain ⟨m, rfl⟩ : ∃ m, n = m + 1 := ⟨n - 1, by omega⟩
  rw [pw_succ]; grind

theorem pw_val (a : F) (n : Nat) : (pw a n).val = a.val ^ n % P := by
  induction n with
  | zero => rfl
  | succ n ih => rw [pw_succ, Fin.val_mul, ih, Nat.pow_succ, Nat.mod_mul_mod]

theorem fermatF {a : F} (h : a ≠ 0) : pw a (P - 1) = 1 := by
  apply Fin.ext
  rw [pw_val]
  refine fermat primeP fun hd => h ?_
  have hlt := a.isLt
  have : a.val = 0 := Nat.eq_zero_of_dvd_of_lt hd hlt
  exact Fin.ext this

/-- The power that makes 1 of a number, as a name: no reckoning goes into it. -/
theorem exP : ∃ n : Nat, n + 1 = P - 1 ∧ 0 < n := ⟨P - 2, by decide, by decide⟩
noncomputable def nP : Nat := Classical.choose exP
theorem nP_succ : nP + 1 = P - 1 := (Classical.choose_spec exP).1
theorem nP_eq : nP = P - 2 := by have := nP_succ; have : P - 1 = (P - 2) + 1 := by decide
                                 omega

/-- What makes 1 of a number; of 0: 0. -/
noncomputable def inv (a : F) : F := pw a nP

theorem inv_zero : inv 0 = 0 := zero_pw _ (Classical.choose_spec exP).2

theorem mul_inv {a : F} (h : a ≠ 0) : a * inv a = 1 := by
  have := fermatF h
  rw [← nP_succ, pw_succ] at this
  unfold inv
  rw [← this]
  grind

theorem mul_eq_zero {a b : F} (h : a * b = 0) : a = 0 ∨ b = 0 := by
  by_cases ha : a = 0
  · exact .inl ha
  · have := mul_inv ha
    right
    grind

theorem mul_ne_zero {a b : F} (ha : a ≠ 0) (hb : b ≠ 0) : a * b ≠ 0 := fun h => (mul_eq_zero h).elim ha hb

theorem one_ne : (1 : F) ≠ 0 := by decide
theorem two_ne : (2 : F) ≠ 0 := by decide

theorem cancel {a b c : F} (ha : a ≠ 0) (h : a * b = a * c) : b = c := by
  have := mul_inv ha
  grind

theorem inv_unique {a b : F} (h : a * b = 1) : inv a = b := by
  have ha : a ≠ 0 := by
    rintro rfl
    have : (0 : F) = 1 := by grind
    exact one_ne this.symm
  have := mul_inv ha
  grind

theorem inv_ne_zero {a : F} (ha : a ≠ 0) : inv a ≠ 0 := by
  intro h
  have := mul_inv ha
  rw [h] at this
  have : (0 : F) = 1 := by grind
  exact one_ne this.symm

theorem sq_eq {a b : F} (h : a * a = b * b) : a = b ∨ a = 0 - b := by
  have h1 : (a - b) * (a + b) = 0 := by grind
  rcases mul_eq_zero h1 with h2 | h2
  · left; grind
  · right; grind

/-- A number's power to the half of p - 1 is 1 or -1. -/
theorem euler {a : F} (h : a ≠ 0) : pw a ((P - 1) / 2) = 1 ∨ pw a ((P - 1) / 2) = 0 - 1 := by
  refine sq_eq ?_
  rw [← pw_add, show (P - 1) / 2 + (P - 1) / 2 = P - 1 by decide, fermatF h]
  grind

theorem square_pw {a s : F} (ha : a ≠ 0) (h : s * s = a) : pw a ((P - 1) / 2) = 1 := by
  have hs : s ≠ 0 := by
    rintro rfl
    exact ha (by grind)
  have e : pw s 2 = a := by rw [← h, show 2 = 1 + 1 from rfl, pw_succ, pw_one]
  rw [← e, ← pw_mul, show 2 * ((P - 1) / 2) = P - 1 by decide, fermatF hs]

/-- The root of -1. -/
def ii : F := 19681161376707505956807079304988542015446066515923890162744021073123829784752
theorem ii_sq : ii * ii = 0 - 1 := by decide +kernel

end Num
