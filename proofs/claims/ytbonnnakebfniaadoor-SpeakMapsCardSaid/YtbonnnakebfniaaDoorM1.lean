/- Primes: Euclid's lemma, Fermat's little theorem, and Pratt's test, over Nat alone. -/
namespace Num

def IsPrime (p : Nat) : Prop := 2 ≤ p ∧ ∀ d, d ∣ p → d = 1 ∨ d = p

theorem euclid {p a b : Nat} (hp : IsPrime p) (h : p ∣ a * b) : p ∣ a ∨ p ∣ b := by
  rcases hp.2 (Nat.gcd p a) (Nat.gcd_dvd_left p a) with h1 | h1
  · exact .inr (Nat.Coprime.dvd_of_dvd_mul_left h1 h)
  · exact .inl (h1 ▸ Nat.gcd_dvd_right p a)

def ch : Nat → Nat → Nat
  | _, 0 => 1
  | 0, _ + 1 => 0
  | n + 1, k + 1 => ch n k + ch n (k + 1)

theorem ch_big : ∀ (n k : Nat), n < k → ch n k = 0
  | _, 0, h => absurd h (by omega)
  | 0, k + 1, _ => rfl
  | n + 1, k + 1, h => by simp only [ch]; rw [ch_big n k (by omega), ch_big n (k + 1) (by omega)]

theorem ch_self : ∀ n, ch n n = 1
  | 0 => rfl
  | n + 1 => by simp only [ch]; rw [ch_self n, ch_big n (n + 1) (by omega)]

theorem ch_mul : ∀ (n k : Nat), (k + 1) * ch (n + 1) (k + 1) = (n + 1) * ch n k
  | 0, 0 => rfl
  | 0, k + 1 => by simp [ch]
  | n + 1, 0 => by
    have h := ch_mul n 0
    simp only [ch] at h ⊢
    omega
  | n + 1, k + 1 => by
    have h1 := ch_mul n k
    have h2 := ch_mul n (k + 1)
    have e1 : ch (n + 1 + 1) (k + 1 + 1) = ch (n + 1) (k + 1) + ch (n + 1) (k + 2) := rfl
    have e2 : ch (n + 1) (k + 1) = ch n k + ch n (k + 1) := rfl
    rw [e1]
    grind

theorem p_dvd_ch {p k : Nat} (hp : IsPrime p) (h0 : 0 < k) (h1 : k < p) : p ∣ ch p k := by
  obtain ⟨q, rfl⟩ : ∃ q, p = q + 1 := ⟨p - 1, by omega⟩
  obtain ⟨j, rfl⟩ : ∃ j, k = j + 1 := ⟨k - 1, by omega⟩
  have h := ch_mul q j
  have hd : q + 1 ∣ (j + 1) * ch (q + 1) (j + 1) := ⟨ch q j, h⟩
  rcases euclid hp hd with h2 | h2
  · have := Nat.le_of_dvd (by omega) h2; omega
  · exact h2

def bsum (x n : Nat) : Nat → Nat
  | 0 => 0
  | m + 1 => bsum x n m + ch n m * x ^ m

theorem bsum_succ (x n m : Nat) : bsum x (n + 1) (m + 1) = x * bsum x n m + bsum x n (m + 1) := by
  induction m with
  | zero => simp [bsum, ch]
  | succ m ih =>
    have e1 : bsum x (n + 1) (m + 1 + 1) = bsum x (n + 1) (m + 1) + ch (n + 1) (m + 1) * x ^ (m + 1) := rfl
    have e2 : bsum x n (m + 1) = bsum x n m + ch n m * x ^ m := rfl
    have e3 : bsum x n (m + 1 + 1) = bsum x n (m + 1) + ch n (m + 1) * x ^ (m + 1) := rfl
    have e4 : ch (n + 1) (m + 1) = ch n m + ch n (m + 1) := rfl
    rw [e1, e4, ih, e3, e2, Nat.pow_succ]
    grind

theorem binom (x n : Nat) : (x + 1) ^ n = bsum x n (n + 1) := by
  induction n with
  | zero => simp [bsum, ch]
  | succ n ih =>
    rw [bsum_succ]
    have e : bsum x n (n + 1 + 1) = bsum x n (n + 1) + ch n (n + 1) * x ^ (n + 1) := rfl
    rw [e, ch_big n (n + 1) (by omega), Nat.pow_succ, ih]
    grind

theorem bsum_mod {p : Nat} (hp : IsPrime p) (x : Nat) : ∀ m, 1 ≤ m → m ≤ p → bsum x p m % p = 1 % p
  | 0, h, _ => absurd h (by omega)
  | 1, _, _ => by simp [bsum, ch]
  | m + 2, _, h2 => by
    have ih := bsum_mod hp x (m + 1) (by omega) (by omega)
    obtain ⟨c, hc⟩ := p_dvd_ch hp (k := m + 1) (by omega) (by omega)
    have e : bsum x p (m + 2) = bsum x p (m + 1) + ch p (m + 1) * x ^ (m + 1) := rfl
    rw [e, hc, Nat.mul_assoc, Nat.add_mul_mod_self_left]
    exact ih

theorem pow_p {p : Nat} (hp : IsPrime p) : ∀ a, a ^ p % p = a % p
  | 0 => by rw [Nat.zero_pow (by have := hp.1; omega)]
  | a + 1 => by
    have ih := pow_p hp a
    have hb := bsum_mod hp a p (by have := hp.1; omega) (Nat.le_refl _)
    rw [binom]
    have e : bsum a p (p + 1) = bsum a p p + ch p p * a ^ p := rfl
    rw [e, ch_self, Nat.one_mul, Nat.add_mod, hb, ih, ← Nat.add_mod, Nat.add_comm]

theorem fermat {p a : Nat} (hp : IsPrime p) (h : ¬ p ∣ a) : a ^ (p - 1) % p = 1 := by
  have h2 := hp.1
  have h1 := pow_p hp a
  have e : a ^ p = a * a ^ (p - 1) := by
    conv => lhs; rw [show p = (p - 1) + 1 by omega, Nat.pow_succ, Nat.mul_comm]
  have hle : 1 ≤ a ^ (p - 1) := Nat.pos_of_ne_zero (by
    intro h0
    have ha : a = 0 := by
      rcases Nat.eq_zero_or_pos a with h3 | h3
      · exact h3
      · have := Nat.pow_pos (n := p - 1) h3; omega
    exact h (ha ▸ Nat.dvd_zero p))
  have hd : p ∣ a * (a ^ (p - 1) - 1) := by
    rw [Nat.mul_sub, Nat.mul_one, ← e]
    exact Nat.dvd_of_mod_eq_zero (Nat.sub_mod_eq_zero_of_mod_eq h1)
  rcases euclid hp hd with h3 | h3
  · exact absurd h3 h
  · obtain ⟨c, hc⟩ := h3
    have : a ^ (p - 1) = 1 + p * c := by omega
    rw [this, Nat.add_mul_mod_self_left, Nat.mod_eq_of_lt (by omega)]

theorem exists_prime : ∀ (m : Nat), 2 ≤ m → ∃ d, IsPrime d ∧ d ∣ m := by
  intro m
  induction m using Nat.strongRecOn with
  | _ m ih =>
    intro h2
    by_cases hp : IsPrime m
    · exact ⟨m, hp, Nat.dvd_refl m⟩
    · have : ∃ d, d ∣ m ∧ d ≠ 1 ∧ d ≠ m := by
        refine Classical.byContradiction fun hn => hp ⟨h2, fun d hd => ?_⟩
        by_cases h1 : d = 1
        · exact .inl h1
        · exact .inr (Classical.byContradiction fun h3 => hn ⟨d, hd, h1, h3⟩)
      obtain ⟨d, hd, h1, h3⟩ := this
      have hle := Nat.le_of_dvd (by omega) hd
      have h0 : d ≠ 0 := by
        rintro rfl
        have := Nat.eq_zero_of_zero_dvd hd
        omega
      obtain ⟨r, hr, hrd⟩ := ih d (by omega) (by omega)
      exact ⟨r, hr, Nat.dvd_trans hrd hd⟩

def lprod : List Nat → Nat
  | [] => 1
  | q :: l => q * lprod l

theorem dvd_lprod {r : Nat} (hr : IsPrime r) : ∀ l : List Nat, (∀ q ∈ l, IsPrime q) → r ∣ lprod l → r ∈ l
  | [], _, h => by
    have h1 : r ≤ 1 := Nat.le_of_dvd (by decide) h
    have := hr.1
    omega
  | q :: l, hl, h => by
    rcases euclid hr h with h1 | h1
    · rcases (hl q (by simp)).2 r h1 with h2 | h2
      · have := hr.1; omega
      · simp [h2]
    · exact List.mem_cons_of_mem _ (dvd_lprod hr l (fun q hq => hl q (List.mem_cons_of_mem _ hq)) h1)

theorem pow_gcd {r a : Nat} (x y : Nat) (hx : a ^ x % r = 1 % r) (hy : a ^ y % r = 1 % r) : a ^ Nat.gcd x y % r = 1 % r := by
  induction x, y using Nat.gcd.induction with
  | H0 y => simpa using hy
  | H1 x y h ih =>
    rw [Nat.gcd_rec]
    refine ih ?_ hx
    have e : a ^ y = (a ^ x) ^ (y / x) * a ^ (y % x) := by
      rw [← Nat.pow_mul, ← Nat.pow_add, Nat.div_add_mod]
    rw [e, Nat.mul_mod, Nat.pow_mod, hx, ← Nat.pow_mod, Nat.one_pow, ← Nat.mul_mod, Nat.one_mul] at hy
    exact hy

def pm (a n : Nat) : Nat → Nat → Nat
  | 0, _ => 1 % n
  | f + 1, e => if e = 0 then 1 % n else
    if e % 2 = 1 then pm a n f (e / 2) * pm a n f (e / 2) % n * a % n else pm a n f (e / 2) * pm a n f (e / 2) % n

theorem pm_eq (a n : Nat) : ∀ (f e : Nat), e < 2 ^ f → pm a n f e = a ^ e % n
  | 0, e, h => by
    have : e = 0 := by simpa using h
    simp [pm, this]
  | f + 1, e, h => by
    simp only [pm]
    by_cases h0 : e = 0
    · simp [h0]
    · have ih := pm_eq a n f (e / 2) (by rw [Nat.pow_succ] at h; omega)
      have hs : a ^ (e / 2) % n * (a ^ (e / 2) % n) % n = a ^ (2 * (e / 2)) % n := by
        rw [← Nat.mul_mod, ← Nat.pow_add]; congr 2; omega
      rw [if_neg h0, ih, hs]
      by_cases h1 : e % 2 = 1
      · rw [if_pos h1, Nat.mul_mod, Nat.mod_mod, ← Nat.mul_mod, ← Nat.pow_succ]; congr 2; omega
      · rw [if_neg h1]; congr 2; omega

theorem pratt {n a : Nat} (fs : List Nat) (h2 : 2 ≤ n) (hprod : lprod fs = n - 1) (hpr : ∀ q ∈ fs, IsPrime q)
    (h1 : a ^ (n - 1) % n = 1) (hq : ∀ q ∈ fs, Nat.gcd (a ^ ((n - 1) / q) % n + (n - 1)) n = 1) : IsPrime n := by
  refine ⟨h2, fun d hd => ?_⟩
  by_cases hd1 : d = 1
  · exact .inl hd1
  · have h0 : d ≠ 0 := by
      rintro rfl
      have := Nat.eq_zero_of_zero_dvd hd
      omega
    obtain ⟨r, hr, hrd⟩ := exists_prime d (by omega)
    have hrn : r ∣ n := Nat.dvd_trans hrd hd
    have hr2 := hr.1
    have hone : a ^ (n - 1) % r = 1 % r := by rw [← Nat.mod_mod_of_dvd (a ^ (n - 1)) hrn, h1]
    have hra : ¬ r ∣ a := by
      intro h
      have : a ^ (n - 1) % r = 0 := by
        obtain ⟨m, hm⟩ : ∃ m, n - 1 = m + 1 := ⟨n - 2, by omega⟩
        rw [hm, Nat.pow_succ]
        exact Nat.mod_eq_zero_of_dvd (Nat.dvd_mul_left_of_dvd h _)
      rw [this, Nat.mod_eq_of_lt (by omega)] at hone
      omega
    have hf : a ^ (r - 1) % r = 1 % r := by rw [fermat hr hra, Nat.mod_eq_of_lt (by omega)]
    have hg := pow_gcd (n - 1) (r - 1) hone hf
    have hgd : Nat.gcd (n - 1) (r - 1) ∣ n - 1 := Nat.gcd_dvd_left _ _
    by_cases hgn : Nat.gcd (n - 1) (r - 1) = n - 1
    · have hle := Nat.le_of_dvd (by omega) (hgn ▸ Nat.gcd_dvd_right (n - 1) (r - 1))
      have hrle := Nat.le_of_dvd (by omega) hrn
      have : r = n := by omega
      subst this
      exact .inr (Nat.dvd_antisymm hd hrd)
    · exfalso
      obtain ⟨m, hm⟩ := hgd
      have hgpos : 0 < Nat.gcd (n - 1) (r - 1) := Nat.gcd_pos_of_pos_left _ (by omega)
      have hm2 : 2 ≤ m := by
        rcases Nat.lt_or_ge m 2 with h | h
        · have : m = 0 ∨ m = 1 := by omega
          rcases this with rfl | rfl
          · simp at hm; omega
          · simp at hm; omega
        · exact h
      obtain ⟨q, hqp, hqm⟩ := exists_prime m hm2
      have hqd : q ∣ lprod fs := by rw [hprod, hm]; exact Nat.dvd_mul_left_of_dvd hqm _
      have hqf := dvd_lprod hqp fs hpr hqd
      obtain ⟨c, rfl⟩ := hqm
      have hq2 := hqp.1
      have hdiv : (n - 1) / q = Nat.gcd (n - 1) (r - 1) * c := by
        conv => lhs; rw [hm]
        rw [show Nat.gcd (n - 1) (r - 1) * (q * c) = q * (Nat.gcd (n - 1) (r - 1) * c) by rw [Nat.mul_left_comm], Nat.mul_div_cancel_left _ (by omega)]
      have hone' : a ^ ((n - 1) / q) % r = 1 % r := by
        rw [hdiv, Nat.pow_mul, Nat.pow_mod, hg, ← Nat.pow_mod, Nat.one_pow]
      have hdvd : r ∣ a ^ ((n - 1) / q) % n + (n - 1) := by
        refine Nat.dvd_of_mod_eq_zero ?_
        rw [Nat.add_mod, Nat.mod_mod_of_dvd _ hrn, hone', ← Nat.add_mod]
        have : 1 + (n - 1) = n := by omega
        rw [this]
        exact Nat.mod_eq_zero_of_dvd hrn
      have hcontra := Nat.dvd_gcd hdvd hrn
      rw [hq q hqf] at hcontra
      have := Nat.le_of_dvd (by decide) hcontra
      omega

/-- The test that the kernel reckons. -/
def prattOk (n a : Nat) (fs : List Nat) : Bool :=
  decide (2 ≤ n) && decide (n < 2 ^ 256) && decide (lprod fs = n - 1) && decide (pm a n 256 (n - 1) = 1) && fs.all fun q => decide (Nat.gcd (pm a n 256 ((n - 1) / q) + (n - 1)) n = 1)

theorem prattOk_prime {n a : Nat} {fs : List Nat} (hpr : ∀ q ∈ fs, IsPrime q) (h : prattOk n a fs = true) : IsPrime n := by
  simp only [prattOk, Bool.and_eq_true, decide_eq_true_eq, List.all_eq_true] at h
  obtain ⟨⟨⟨⟨h2, hn⟩, hp⟩, h1⟩, hq⟩ := h
  have hlt : n - 1 < 2 ^ 256 := by omega
  refine pratt (a := a) fs h2 hp hpr (by rw [← pm_eq a n 256 _ hlt]; exact h1) (fun q hqf => ?_)
  rw [← pm_eq a n 256 _ (Nat.lt_of_le_of_lt (Nat.div_le_self _ _) hlt)]
  exact hq q hqf

/-- A small prime, by all divisors. -/
def smallOk (p : Nat) : Bool := decide (2 ≤ p) && (List.range p).all fun d => decide (d < 2) || decide (p % d ≠ 0)

theorem smallOk_prime {p : Nat} (h : smallOk p = true) : IsPrime p := by
  simp only [smallOk, Bool.and_eq_true, decide_eq_true_eq, List.all_eq_true, List.mem_range, Bool.or_eq_true] at h
  refine ⟨h.1, fun d hd => ?_⟩
  have hle := Nat.le_of_dvd (by omega) hd
  by_cases hlt : d < p
  · rcases h.2 d hlt with h1 | h1
    · have : d ≠ 0 := by
        rintro rfl
        have := Nat.eq_zero_of_zero_dvd hd
        omega
      omega
    · exact absurd (Nat.mod_eq_zero_of_dvd hd) h1
  · omega

end Num
