/- An element's limbs as numbers of the field: what carry, Add, Sub and Mul come to. -/
import Derived.Test.YtbonnnakebfniaaDoorFm
import Derived.Test.YtbonnnakebfniaaDoorFs
namespace Go.Proofs.YtbonnnakebfniaaDoor
open Go Go.RowKit Num

/-- An element's limbs. -/
structure El where
  l0 : Int
  l1 : Int
  l2 : Int
  l3 : Int
  l4 : Int

abbrev El.v (e : El) : Value := elV e.l0 e.l1 e.l2 e.l3 e.l4
abbrev El.n (e : El) : Int := lv e.l0 e.l1 e.l2 e.l3 e.l4

theorem toF_lt (n : Int) : (n % pp).toNat < Num.P := by
  show (n % 57896044618658097711785492504343953926634992332820282019728792003956564819949).toNat < 57896044618658097711785492504343953926634992332820282019728792003956564819949
  omega

/-- A number, modulo p. -/
def toF (n : Int) : F := ⟨(n % pp).toNat, toF_lt n⟩

theorem toF_eq {a b : Int} (h : a % pp = b % pp) : toF a = toF b := by
  apply Fin.ext
  show (a % pp).toNat = (b % pp).toNat
  rw [h]

theorem toF_of_sub {a b : Int} (k : Int) (h : a = b + pp * k) : toF a = toF b := toF_eq (by rw [h, Int.add_mul_emod_self_left])

theorem toF_val (n : Int) : ((toF n).val : Int) = n % pp := by
  show ((n % pp).toNat : Int) = n % pp
  have := Int.emod_nonneg n (b := pp) (by decide)
  omega

theorem toF_add (a b : Int) : toF (a + b) = toF a + toF b := by
  apply Fin.ext
  have h1 := toF_val (a + b)
  have h2 := toF_val a
  have h3 := toF_val b
  rw [Fin.val_add]
  show (toF (a + b)).val = ((toF a).val + (toF b).val) % 57896044618658097711785492504343953926634992332820282019728792003956564819949
  have e : (((toF a).val + (toF b).val) % 57896044618658097711785492504343953926634992332820282019728792003956564819949 : Nat) = ((((toF a).val : Int) + (toF b).val) % pp) := by
    rw [Int.natCast_emod, Int.natCast_add]; rfl
  have : ((toF (a + b)).val : Int) = ((((toF a).val + (toF b).val) % 57896044618658097711785492504343953926634992332820282019728792003956564819949 : Nat) : Int) := by
    rw [e, h1, h2, h3, ← Int.add_emod]
  exact_mod_cast this

theorem toF_mul (a b : Int) : toF (a * b) = toF a * toF b := by
  apply Fin.ext
  have h1 := toF_val (a * b)
  have h2 := toF_val a
  have h3 := toF_val b
  rw [Fin.val_mul]
  show (toF (a * b)).val = ((toF a).val * (toF b).val) % 57896044618658097711785492504343953926634992332820282019728792003956564819949
  have e : (((toF a).val * (toF b).val) % 57896044618658097711785492504343953926634992332820282019728792003956564819949 : Nat) = ((((toF a).val : Int) * (toF b).val) % pp) := by
    rw [Int.natCast_emod, Int.natCast_mul]; rfl
  have : ((toF (a * b)).val : Int) = ((((toF a).val * (toF b).val) % 57896044618658097711785492504343953926634992332820282019728792003956564819949 : Nat) : Int) := by
    rw [e, h1, h2, h3, ← Int.mul_emod]
  exact_mod_cast this

theorem toF_zero : toF 0 = 0 := by decide
theorem toF_one : toF 1 = 1 := by decide
theorem toF_pp : toF pp = 0 := by decide

theorem toF_sub (a b : Int) : toF (a - b) = toF a - toF b := by
  have h := toF_add (a - b) b
  rw [Int.sub_add_cancel] at h
  rw [h]
  grobner

/-- The limbs are in their bounds, and come to a number. -/
structure IsL (e : El) (n : F) : Prop where
  b0 : 0 ≤ e.l0 ∧ e.l0 < 2251799813947392
  b1 : 0 ≤ e.l1 ∧ e.l1 < 2251799813947392
  b2 : 0 ≤ e.l2 ∧ e.l2 < 2251799813947392
  b3 : 0 ≤ e.l3 ∧ e.l3 < 2251799813947392
  b4 : 0 ≤ e.l4 ∧ e.l4 < 2251799813947392
  val : toF e.n = n

abbrev crE (a0 a1 a2 a3 a4 : Int) : El :=
  ⟨a0 % 2251799813685248 + cr4 a0 a1 a2 a3 a4 / 2251799813685248 * 19, cr1 a0 a1 % 2251799813685248, cr2 a0 a1 a2 % 2251799813685248, cr3 a0 a1 a2 a3 % 2251799813685248, cr4 a0 a1 a2 a3 a4 % 2251799813685248⟩

theorem crE_n (a0 a1 a2 a3 a4 : Int) : lv a0 a1 a2 a3 a4 = (crE a0 a1 a2 a3 a4).n + pp * (cr4 a0 a1 a2 a3 a4 / 2251799813685248) := by
  simp only [El.n, lv, cr4, cr3, cr2, cr1, pp]
  omega

theorem crE_is {a0 a1 a2 a3 a4 : Int} (h0 : 0 ≤ a0 ∧ a0 < 9223372036854775808) (h1 : 0 ≤ a1 ∧ a1 < 9223372036854775808) (h2 : 0 ≤ a2 ∧ a2 < 9223372036854775808)
    (h3 : 0 ≤ a3 ∧ a3 < 9223372036854775808) (h4 : 0 ≤ a4 ∧ a4 < 9223372036854775808) : IsL (crE a0 a1 a2 a3 a4) (toF (lv a0 a1 a2 a3 a4)) := by
  refine ⟨?_, ?_, ?_, ?_, ?_, (toF_of_sub _ (crE_n a0 a1 a2 a3 a4)).symm⟩
  all_goals simp only [cr4, cr3, cr2, cr1]
  all_goals omega

/-- A call that hands back a value and leaves what was there. -/
abbrev Pure (f : FuncId) (args : Array Value) (v : Value) : Prop := ∀ w, Calls Tryd.prog f args w fun e w' => e = .returned v ∧ Below w.heap.size w w'

theorem carry_E {a0 a1 a2 a3 a4 : Int} (h0 : 0 ≤ a0 ∧ a0 < 9223372036854775808) (h1 : 0 ≤ a1 ∧ a1 < 9223372036854775808) (h2 : 0 ≤ a2 ∧ a2 < 9223372036854775808)
    (h3 : 0 ≤ a3 ∧ a3 < 9223372036854775808) (h4 : 0 ≤ a4 ∧ a4 < 9223372036854775808) :
    ∃ c : El, IsL c (toF (lv a0 a1 a2 a3 a4)) ∧ Pure 23 #[elV a0 a1 a2 a3 a4] c.v :=
  ⟨crE a0 a1 a2 a3 a4, crE_is h0 h1 h2 h3 h4, fun w => carry_any a0 a1 a2 a3 a4 w h0 h1 h2 h3 h4⟩

theorem add_E {a b : El} {m n : F} (ha : IsL a m) (hb : IsL b n) : ∃ c : El, IsL c (m + n) ∧ Pure 9 #[a.v, b.v] c.v := by
  obtain ⟨a0, a1, a2, a3, a4, av⟩ := ha
  obtain ⟨b0, b1, b2, b3, b4, bv⟩ := hb
  refine ⟨crE (a.l0 + b.l0) (a.l1 + b.l1) (a.l2 + b.l2) (a.l3 + b.l3) (a.l4 + b.l4), ?_, fun w => ?_⟩
  · have h := crE_is (a0 := a.l0 + b.l0) (a1 := a.l1 + b.l1) (a2 := a.l2 + b.l2) (a3 := a.l3 + b.l3) (a4 := a.l4 + b.l4) (by omega) (by omega) (by omega) (by omega) (by omega)
    rw [show lv (a.l0 + b.l0) (a.l1 + b.l1) (a.l2 + b.l2) (a.l3 + b.l3) (a.l4 + b.l4) = a.n + b.n by simp only [El.n, lv]; omega, toF_add, av, bv] at h
    exact h
  · exact add_any a.l0 a.l1 a.l2 a.l3 a.l4 b.l0 b.l1 b.l2 b.l3 b.l4 w (by omega) (by omega) (by omega) (by omega) (by omega) (by omega) (by omega) (by omega) (by omega) (by omega)

theorem sub_E {a b : El} {m n : F} (ha : IsL a m) (hb : IsL b n) : ∃ c : El, IsL c (m - n) ∧ Pure 11 #[a.v, b.v] c.v := by
  obtain ⟨a0, a1, a2, a3, a4, av⟩ := ha
  obtain ⟨b0, b1, b2, b3, b4, bv⟩ := hb
  obtain ⟨c, ⟨c0, c1, c2, c3, c4, cv⟩, hcar⟩ := carry_E (a0 := b.l0) (a1 := b.l1) (a2 := b.l2) (a3 := b.l3) (a4 := b.l4) (by omega) (by omega) (by omega) (by omega) (by omega)
  refine ⟨crE (a.l0 + 4503599627370458 - c.l0) (a.l1 + 4503599627370494 - c.l1) (a.l2 + 4503599627370494 - c.l2) (a.l3 + 4503599627370494 - c.l3) (a.l4 + 4503599627370494 - c.l4), ?_, fun w => ?_⟩
  · have h := crE_is (a0 := a.l0 + 4503599627370458 - c.l0) (a1 := a.l1 + 4503599627370494 - c.l1) (a2 := a.l2 + 4503599627370494 - c.l2) (a3 := a.l3 + 4503599627370494 - c.l3) (a4 := a.l4 + 4503599627370494 - c.l4) (by omega) (by omega) (by omega) (by omega) (by omega)
    have e : lv (a.l0 + 4503599627370458 - c.l0) (a.l1 + 4503599627370494 - c.l1) (a.l2 + 4503599627370494 - c.l2) (a.l3 + 4503599627370494 - c.l3) (a.l4 + 4503599627370494 - c.l4) = (a.n - c.n) + pp * 2 := by
      simp only [El.n, lv, pp]; omega
    rw [toF_of_sub 2 e, toF_sub, av, cv] at h
    have hbv : toF (lv b.l0 b.l1 b.l2 b.l3 b.l4) = n := bv
    rw [hbv] at h
    exact h
  · exact sub_any a.l0 a.l1 a.l2 a.l3 a.l4 b.l0 b.l1 b.l2 b.l3 b.l4 w (by omega) (by omega) (by omega) (by omega) (by omega) (by omega) (by omega) (by omega) (by omega) (by omega) c.l0 c.l1 c.l2 c.l3 c.l4 hcar c0 c1 c2 c3 c4

theorem mul_poly (a0 a1 a2 a3 a4 b0 b1 b2 b3 b4 : Int) :
    lv a0 a1 a2 a3 a4 * lv b0 b1 b2 b3 b4 = lv (pr0 a0 a1 a2 a3 a4 b0 b1 b2 b3 b4) (pr1 a0 a1 a2 a3 a4 b0 b1 b2 b3 b4) (pr2 a0 a1 a2 a3 a4 b0 b1 b2 b3 b4) (pr3 a0 a1 a2 a3 a4 b0 b1 b2 b3 b4) (pr4 a0 a1 a2 a3 a4 b0 b1 b2 b3 b4) +
      pp * lv (a1 * b4 + a2 * b3 + a3 * b2 + a4 * b1) (a2 * b4 + a3 * b3 + a4 * b2) (a3 * b4 + a4 * b3) (a4 * b4) 0 := by
  simp only [lv, pr0, pr1, pr2, pr3, pr4, pp]
  grobner

theorem mul_E {a b : El} {m n : F} (ha : IsL a m) (hb : IsL b n) : ∃ c : El, IsL c (m * n) ∧ Pure 10 #[a.v, b.v] c.v := by
  obtain ⟨a0, a1, a2, a3, a4, av⟩ := ha
  obtain ⟨b0, b1, b2, b3, b4, bv⟩ := hb
  have hw := fun w => mul_walk a.l0 a.l1 a.l2 a.l3 a.l4 b.l0 b.l1 b.l2 b.l3 b.l4 w (by omega) (by omega) (by omega) (by omega) (by omega) (by omega) (by omega) (by omega) (by omega) (by omega)
  refine ⟨crE _ _ _ _ _, ?_, fun w => hw w⟩
  have hpoly := mul_poly a.l0 a.l1 a.l2 a.l3 a.l4 b.l0 b.l1 b.l2 b.l3 b.l4
  have hbd : ∀ x y : Int, (0 ≤ x ∧ x < 2251799813947392) → (0 ≤ y ∧ y < 2251799813947392) → 0 ≤ x * y ∧ x * y < 20282409603651670423947251286016 := fun x y hx hy => prod_bd (by omega) (by omega)
  have hb19 : ∀ x y : Int, (0 ≤ x ∧ x < 2251799813947392) → (0 ≤ y ∧ y < 2251799813947392) → 0 ≤ x * 19 * y ∧ x * 19 * y < 385365782469381738054997774434304 := fun x y hx hy => prod_bd19 (by omega) (by omega)
  have s0 : 0 ≤ pr0 a.l0 a.l1 a.l2 a.l3 a.l4 b.l0 b.l1 b.l2 b.l3 b.l4 ∧ pr0 a.l0 a.l1 a.l2 a.l3 a.l4 b.l0 b.l1 b.l2 b.l3 b.l4 < 10384593717069655257060992658440192 := by
    have := hbd _ _ a0 b0; have := hb19 _ _ a1 b4; have := hb19 _ _ a2 b3; have := hb19 _ _ a3 b2; have := hb19 _ _ a4 b1
    simp only [pr0]; omega
  have s1 : 0 ≤ pr1 a.l0 a.l1 a.l2 a.l3 a.l4 b.l0 b.l1 b.l2 b.l3 b.l4 ∧ pr1 a.l0 a.l1 a.l2 a.l3 a.l4 b.l0 b.l1 b.l2 b.l3 b.l4 < 10384593717069655257060992658440192 := by
    have := hbd _ _ a0 b1; have := hbd _ _ a1 b0; have := hb19 _ _ a2 b4; have := hb19 _ _ a3 b3; have := hb19 _ _ a4 b2
    simp only [pr1]; omega
  have s2 : 0 ≤ pr2 a.l0 a.l1 a.l2 a.l3 a.l4 b.l0 b.l1 b.l2 b.l3 b.l4 ∧ pr2 a.l0 a.l1 a.l2 a.l3 a.l4 b.l0 b.l1 b.l2 b.l3 b.l4 < 10384593717069655257060992658440192 := by
    have := hbd _ _ a0 b2; have := hbd _ _ a1 b1; have := hbd _ _ a2 b0; have := hb19 _ _ a3 b4; have := hb19 _ _ a4 b3
    simp only [pr2]; omega
  have s3 : 0 ≤ pr3 a.l0 a.l1 a.l2 a.l3 a.l4 b.l0 b.l1 b.l2 b.l3 b.l4 ∧ pr3 a.l0 a.l1 a.l2 a.l3 a.l4 b.l0 b.l1 b.l2 b.l3 b.l4 < 10384593717069655257060992658440192 := by
    have := hbd _ _ a0 b3; have := hbd _ _ a1 b2; have := hbd _ _ a2 b1; have := hbd _ _ a3 b0; have := hb19 _ _ a4 b4
    simp only [pr3]; omega
  have s4 : 0 ≤ pr4 a.l0 a.l1 a.l2 a.l3 a.l4 b.l0 b.l1 b.l2 b.l3 b.l4 ∧ pr4 a.l0 a.l1 a.l2 a.l3 a.l4 b.l0 b.l1 b.l2 b.l3 b.l4 < 10384593717069655257060992658440192 := by
    have := hbd _ _ a0 b4; have := hbd _ _ a1 b3; have := hbd _ _ a2 b2; have := hbd _ _ a3 b1; have := hbd _ _ a4 b0
    simp only [pr4]; omega
  clear hw hbd hb19
  simp only [mtd, mt4, mt3, mt2, mt1, mt0]
  generalize pr0 a.l0 a.l1 a.l2 a.l3 a.l4 b.l0 b.l1 b.l2 b.l3 b.l4 = p0 at *
  generalize pr1 a.l0 a.l1 a.l2 a.l3 a.l4 b.l0 b.l1 b.l2 b.l3 b.l4 = p1 at *
  generalize pr2 a.l0 a.l1 a.l2 a.l3 a.l4 b.l0 b.l1 b.l2 b.l3 b.l4 = p2 at *
  generalize pr3 a.l0 a.l1 a.l2 a.l3 a.l4 b.l0 b.l1 b.l2 b.l3 b.l4 = p3 at *
  generalize pr4 a.l0 a.l1 a.l2 a.l3 a.l4 b.l0 b.l1 b.l2 b.l3 b.l4 = p4 at *
  obtain ⟨t1, ht1⟩ : ∃ t, t = p1 + p0 / 2251799813685248 := ⟨_, rfl⟩
  rw [← ht1]
  obtain ⟨t2, ht2⟩ : ∃ t, t = p2 + t1 / 2251799813685248 := ⟨_, rfl⟩
  rw [← ht2]
  obtain ⟨t3, ht3⟩ : ∃ t, t = p3 + t2 / 2251799813685248 := ⟨_, rfl⟩
  rw [← ht3]
  obtain ⟨t4, ht4⟩ : ∃ t, t = p4 + t3 / 2251799813685248 := ⟨_, rfl⟩
  rw [← ht4]
  obtain ⟨c, hc⟩ : ∃ t, t = t4 / 2251799813685248 := ⟨_, rfl⟩
  rw [← hc]
  have h := crE_is (a0 := (c * 19 + p0) % 2251799813685248) (a1 := t1 % 2251799813685248 + (c * 19 + p0 % 2251799813685248) / 2251799813685248) (a2 := t2 % 2251799813685248) (a3 := t3 % 2251799813685248) (a4 := t4 % 2251799813685248)
    (by omega) (by omega) (by omega) (by omega) (by omega)
  have hv : lv ((c * 19 + p0) % 2251799813685248) (t1 % 2251799813685248 + (c * 19 + p0 % 2251799813685248) / 2251799813685248) (t2 % 2251799813685248) (t3 % 2251799813685248) (t4 % 2251799813685248) + pp * c = lv p0 p1 p2 p3 p4 := by
    simp only [lv, pp]; omega
  have e1 := toF_of_sub (a := lv p0 p1 p2 p3 p4) c hv.symm
  have e2 := toF_of_sub _ hpoly
  rw [toF_mul, av, bv, e1] at e2
  rw [← e2] at h
  exact h

end Go.Proofs.YtbonnnakebfniaaDoor
