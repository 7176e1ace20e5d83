/- One times the other: the walk of field.Elem.Mul, its limbs told. -/
import Derived.Test.YtbonnnakebfniaaDoorFb
namespace Go.Proofs.YtbonnnakebfniaaDoor
open Go Go.RowKit

/-- A product's bounds. -/
theorem prod_bd {a b : Int} (ha : 0 ≤ a ∧ a < 4503599627370496) (hb : 0 ≤ b ∧ b < 4503599627370496) : 0 ≤ a * b ∧ a * b < 20282409603651670423947251286016 := by
  refine ⟨Int.mul_nonneg ha.1 hb.1, ?_⟩
  have h1 : a * b ≤ 4503599627370495 * b := Int.mul_le_mul_of_nonneg_right (by omega) hb.1
  omega

theorem prod_bd19 {a b : Int} (ha : 0 ≤ a ∧ a < 4503599627370496) (hb : 0 ≤ b ∧ b < 4503599627370496) : 0 ≤ a * 19 * b ∧ a * 19 * b < 385365782469381738054997774434304 := by
  have h := prod_bd ha hb
  have e : a * 19 * b = 19 * (a * b) := by rw [Int.mul_comm a 19, Int.mul_assoc]
  omega

abbrev pr0 (a0 a1 a2 a3 a4 b0 b1 b2 b3 b4 : Int) : Int := a0 * b0 + a1 * 19 * b4 + a2 * 19 * b3 + a3 * 19 * b2 + a4 * 19 * b1
abbrev pr1 (a0 a1 a2 a3 a4 b0 b1 b2 b3 b4 : Int) : Int := a0 * b1 + a1 * b0 + a2 * 19 * b4 + a3 * 19 * b3 + a4 * 19 * b2
abbrev pr2 (a0 a1 a2 a3 a4 b0 b1 b2 b3 b4 : Int) : Int := a0 * b2 + a1 * b1 + a2 * b0 + a3 * 19 * b4 + a4 * 19 * b3
abbrev pr3 (a0 a1 a2 a3 a4 b0 b1 b2 b3 b4 : Int) : Int := a0 * b3 + a1 * b2 + a2 * b1 + a3 * b0 + a4 * 19 * b4
abbrev pr4 (a0 a1 a2 a3 a4 b0 b1 b2 b3 b4 : Int) : Int := a0 * b4 + a1 * b3 + a2 * b2 + a3 * b1 + a4 * b0

abbrev mt0 (a0 a1 a2 a3 a4 b0 b1 b2 b3 b4 : Int) : Int := pr0 a0 a1 a2 a3 a4 b0 b1 b2 b3 b4
abbrev mt1 (a0 a1 a2 a3 a4 b0 b1 b2 b3 b4 : Int) : Int := pr1 a0 a1 a2 a3 a4 b0 b1 b2 b3 b4 + mt0 a0 a1 a2 a3 a4 b0 b1 b2 b3 b4 / 2251799813685248
abbrev mt2 (a0 a1 a2 a3 a4 b0 b1 b2 b3 b4 : Int) : Int := pr2 a0 a1 a2 a3 a4 b0 b1 b2 b3 b4 + mt1 a0 a1 a2 a3 a4 b0 b1 b2 b3 b4 / 2251799813685248
abbrev mt3 (a0 a1 a2 a3 a4 b0 b1 b2 b3 b4 : Int) : Int := pr3 a0 a1 a2 a3 a4 b0 b1 b2 b3 b4 + mt2 a0 a1 a2 a3 a4 b0 b1 b2 b3 b4 / 2251799813685248
abbrev mt4 (a0 a1 a2 a3 a4 b0 b1 b2 b3 b4 : Int) : Int := pr4 a0 a1 a2 a3 a4 b0 b1 b2 b3 b4 + mt3 a0 a1 a2 a3 a4 b0 b1 b2 b3 b4 / 2251799813685248
abbrev mtd (a0 a1 a2 a3 a4 b0 b1 b2 b3 b4 : Int) : Int := mt4 a0 a1 a2 a3 a4 b0 b1 b2 b3 b4 / 2251799813685248 * 19 + mt0 a0 a1 a2 a3 a4 b0 b1 b2 b3 b4 % 2251799813685248

theorem orsh (t : Int) (h0 : 0 ≤ t) (h1 : t < 41538374868278621028243970633760768) : bits .or .u64 (t / 18446744073709551616 * 8192) (t % 18446744073709551616 / 2251799813685248) = t / 2251799813685248 := by
  rw [u64_or _ _ (by omega) (by omega) (by omega) (by omega)]
  obtain ⟨n, rfl⟩ := Int.eq_ofNat_of_zero_le h0
  have e1 : ((n : Int) / 18446744073709551616 * 8192).toNat = 2 ^ 13 * (n / 18446744073709551616) := by omega
  have e2 : ((n : Int) % 18446744073709551616 / 2251799813685248).toNat = n % 18446744073709551616 / 2251799813685248 := by omega
  rw [e1, e2, ← Nat.two_pow_add_eq_or_of_lt (by omega)]
  omega

theorem maskM (t : Int) (_h0 : 0 ≤ t) : bits .and .u64 (t % 18446744073709551616) 2251799813685247 = t % 2251799813685248 := by
  rw [mask51 _ (by omega) (by omega)]; omega

set_option maxHeartbeats 8000000 in
set_option maxRecDepth 100000 in
theorem mul_walk (a0 a1 a2 a3 a4 b0 b1 b2 b3 b4 : Int) (w : World) (ha0 : 0 ≤ a0 ∧ a0 < 4503599627370496) (ha1 : 0 ≤ a1 ∧ a1 < 4503599627370496) (ha2 : 0 ≤ a2 ∧ a2 < 4503599627370496) (ha3 : 0 ≤ a3 ∧ a3 < 4503599627370496) (ha4 : 0 ≤ a4 ∧ a4 < 4503599627370496) (hb0 : 0 ≤ b0 ∧ b0 < 4503599627370496) (hb1 : 0 ≤ b1 ∧ b1 < 4503599627370496) (hb2 : 0 ≤ b2 ∧ b2 < 4503599627370496) (hb3 : 0 ≤ b3 ∧ b3 < 4503599627370496) (hb4 : 0 ≤ b4 ∧ b4 < 4503599627370496) :
    Calls Tryd.prog 10 #[elV a0 a1 a2 a3 a4, elV b0 b1 b2 b3 b4] w fun e w' =>
      e = .returned (crV ((mt4 a0 a1 a2 a3 a4 b0 b1 b2 b3 b4 / 2251799813685248 * 19 + mt0 a0 a1 a2 a3 a4 b0 b1 b2 b3 b4) % 2251799813685248) (mt1 a0 a1 a2 a3 a4 b0 b1 b2 b3 b4 % 2251799813685248 + mtd a0 a1 a2 a3 a4 b0 b1 b2 b3 b4 / 2251799813685248) (mt2 a0 a1 a2 a3 a4 b0 b1 b2 b3 b4 % 2251799813685248) (mt3 a0 a1 a2 a3 a4 b0 b1 b2 b3 b4 % 2251799813685248) (mt4 a0 a1 a2 a3 a4 b0 b1 b2 b3 b4 % 2251799813685248)) ∧ Below w.heap.size w w' := by
  have p00 := prod_bd ha0 hb0
  have p01 := prod_bd ha0 hb1
  have p02 := prod_bd ha0 hb2
  have p03 := prod_bd ha0 hb3
  have p04 := prod_bd ha0 hb4
  have p10 := prod_bd ha1 hb0
  have p11 := prod_bd ha1 hb1
  have p12 := prod_bd ha1 hb2
  have p13 := prod_bd ha1 hb3
  have p14 := prod_bd19 ha1 hb4
  have p20 := prod_bd ha2 hb0
  have p21 := prod_bd ha2 hb1
  have p22 := prod_bd ha2 hb2
  have p23 := prod_bd19 ha2 hb3
  have p24 := prod_bd19 ha2 hb4
  have p30 := prod_bd ha3 hb0
  have p31 := prod_bd ha3 hb1
  have p32 := prod_bd19 ha3 hb2
  have p33 := prod_bd19 ha3 hb3
  have p34 := prod_bd19 ha3 hb4
  have p40 := prod_bd ha4 hb0
  have p41 := prod_bd19 ha4 hb1
  have p42 := prod_bd19 ha4 hb2
  have p43 := prod_bd19 ha4 hb3
  have p44 := prod_bd19 ha4 hb4
  have ia0 : ∀ w, (Instr.index 28 (.agg #[.int .u64 a0, .int .u64 a1, .int .u64 a2, .int .u64 a3, .int .u64 a4]) (.int .i64 0)).run Tryd.prog w = .ok (.int .u64 a0) w := fun _ => by kernel_rfl
  have ia1 : ∀ w, (Instr.index 28 (.agg #[.int .u64 a0, .int .u64 a1, .int .u64 a2, .int .u64 a3, .int .u64 a4]) (.int .i64 1)).run Tryd.prog w = .ok (.int .u64 a1) w := fun _ => by kernel_rfl
  have ia2 : ∀ w, (Instr.index 28 (.agg #[.int .u64 a0, .int .u64 a1, .int .u64 a2, .int .u64 a3, .int .u64 a4]) (.int .i64 2)).run Tryd.prog w = .ok (.int .u64 a2) w := fun _ => by kernel_rfl
  have ia3 : ∀ w, (Instr.index 28 (.agg #[.int .u64 a0, .int .u64 a1, .int .u64 a2, .int .u64 a3, .int .u64 a4]) (.int .i64 3)).run Tryd.prog w = .ok (.int .u64 a3) w := fun _ => by kernel_rfl
  have ia4 : ∀ w, (Instr.index 28 (.agg #[.int .u64 a0, .int .u64 a1, .int .u64 a2, .int .u64 a3, .int .u64 a4]) (.int .i64 4)).run Tryd.prog w = .ok (.int .u64 a4) w := fun _ => by kernel_rfl
  have ib0 : ∀ w, (Instr.index 28 (.agg #[.int .u64 b0, .int .u64 b1, .int .u64 b2, .int .u64 b3, .int .u64 b4]) (.int .i64 0)).run Tryd.prog w = .ok (.int .u64 b0) w := fun _ => by kernel_rfl
  have ib1 : ∀ w, (Instr.index 28 (.agg #[.int .u64 b0, .int .u64 b1, .int .u64 b2, .int .u64 b3, .int .u64 b4]) (.int .i64 1)).run Tryd.prog w = .ok (.int .u64 b1) w := fun _ => by kernel_rfl
  have ib2 : ∀ w, (Instr.index 28 (.agg #[.int .u64 b0, .int .u64 b1, .int .u64 b2, .int .u64 b3, .int .u64 b4]) (.int .i64 2)).run Tryd.prog w = .ok (.int .u64 b2) w := fun _ => by kernel_rfl
  have ib3 : ∀ w, (Instr.index 28 (.agg #[.int .u64 b0, .int .u64 b1, .int .u64 b2, .int .u64 b3, .int .u64 b4]) (.int .i64 3)).run Tryd.prog w = .ok (.int .u64 b3) w := fun _ => by kernel_rfl
  have ib4 : ∀ w, (Instr.index 28 (.agg #[.int .u64 b0, .int .u64 b1, .int .u64 b2, .int .u64 b3, .int .u64 b4]) (.int .i64 4)).run Tryd.prog w = .ok (.int .u64 b4) w := fun _ => by kernel_rfl
  go_enter Tryd.func10, Tryd.ntmps10
  go_wp2
  refine wp_loop_rounds 6 ?_
  rw [rounds_succ]; go_wp2
  refine wp_loop_rounds 6 ?_
  rw [rounds_succ]; go_wp2_with (go_at_call 24; refine (sumadd_any _ _ (0) _ _ _ (by omega) (by omega) (by omega) (by omega) (by simp [go_sem]) (by simp [go_sem]) (by simp [go_sem]) (by simp [go_sem])).mono ?_; rintro e w' ⟨rfl, rfl⟩)
  rw [rounds_succ]; go_wp2_with (go_at_call 24; refine (sumadd_any _ _ (0) _ _ _ (by omega) (by omega) (by omega) (by omega) (by simp [go_sem]) (by simp [go_sem]) (by simp [go_sem]) (by simp [go_sem])).mono ?_; rintro e w' ⟨rfl, rfl⟩)
  rw [rounds_succ]; go_wp2_with (go_at_call 24; refine (sumadd_any _ _ (0) _ _ _ (by omega) (by omega) (by omega) (by omega) (by simp [go_sem]) (by simp [go_sem]) (by simp [go_sem]) (by simp [go_sem])).mono ?_; rintro e w' ⟨rfl, rfl⟩)
  rw [rounds_succ]; go_wp2_with (go_at_call 24; refine (sumadd_any _ _ (0) _ _ _ (by omega) (by omega) (by omega) (by omega) (by simp [go_sem]) (by simp [go_sem]) (by simp [go_sem]) (by simp [go_sem])).mono ?_; rintro e w' ⟨rfl, rfl⟩)
  rw [rounds_succ]; go_wp2_with (go_at_call 24; refine (sumadd_any _ _ (0) _ _ _ (by omega) (by omega) (by omega) (by omega) (by simp [go_sem]) (by simp [go_sem]) (by simp [go_sem]) (by simp [go_sem])).mono ?_; rintro e w' ⟨rfl, rfl⟩)
  rw [rounds_succ]; go_wp2
  rw [rounds_succ]; go_wp2
  refine wp_loop_rounds 6 ?_
  rw [rounds_succ]; go_wp2_with (go_at_call 24; refine (sumadd_any _ _ (a0 * b1) _ _ _ (by omega) (by omega) (by omega) (by omega) (by simp [go_sem]) (by simp [go_sem]) (by simp [go_sem]) (by simp [go_sem])).mono ?_; rintro e w' ⟨rfl, rfl⟩)
  rw [rounds_succ]; go_wp2_with (go_at_call 24; refine (sumadd_any _ _ (a0 * b2) _ _ _ (by omega) (by omega) (by omega) (by omega) (by simp [go_sem]) (by simp [go_sem]) (by simp [go_sem]) (by simp [go_sem])).mono ?_; rintro e w' ⟨rfl, rfl⟩)
  rw [rounds_succ]; go_wp2_with (go_at_call 24; refine (sumadd_any _ _ (a0 * b3) _ _ _ (by omega) (by omega) (by omega) (by omega) (by simp [go_sem]) (by simp [go_sem]) (by simp [go_sem]) (by simp [go_sem])).mono ?_; rintro e w' ⟨rfl, rfl⟩)
  rw [rounds_succ]; go_wp2_with (go_at_call 24; refine (sumadd_any _ _ (a0 * b4) _ _ _ (by omega) (by omega) (by omega) (by omega) (by simp [go_sem]) (by simp [go_sem]) (by simp [go_sem]) (by simp [go_sem])).mono ?_; rintro e w' ⟨rfl, rfl⟩)
  rw [rounds_succ]; go_wp2_with (go_at_call 24; refine (sumadd_any _ _ (a0 * b0) _ _ _ (by omega) (by omega) (by omega) (by omega) (by simp [go_sem]) (by simp [go_sem]) (by simp [go_sem]) (by simp [go_sem])).mono ?_; rintro e w' ⟨rfl, rfl⟩)
  rw [rounds_succ]; go_wp2
  rw [rounds_succ]; go_wp2
  refine wp_loop_rounds 6 ?_
  rw [rounds_succ]; go_wp2_with (go_at_call 24; refine (sumadd_any _ _ (a0 * b2 + a1 * b1) _ _ _ (by omega) (by omega) (by omega) (by omega) (by simp [go_sem]) (by simp [go_sem]) (by simp [go_sem]) (by simp [go_sem])).mono ?_; rintro e w' ⟨rfl, rfl⟩)
  rw [rounds_succ]; go_wp2_with (go_at_call 24; refine (sumadd_any _ _ (a0 * b3 + a1 * b2) _ _ _ (by omega) (by omega) (by omega) (by omega) (by simp [go_sem]) (by simp [go_sem]) (by simp [go_sem]) (by simp [go_sem])).mono ?_; rintro e w' ⟨rfl, rfl⟩)
  rw [rounds_succ]; go_wp2_with (go_at_call 24; refine (sumadd_any _ _ (a0 * b4 + a1 * b3) _ _ _ (by omega) (by omega) (by omega) (by omega) (by simp [go_sem]) (by simp [go_sem]) (by simp [go_sem]) (by simp [go_sem])).mono ?_; rintro e w' ⟨rfl, rfl⟩)
  rw [rounds_succ]; go_wp2_with (go_at_call 24; refine (sumadd_any _ _ (a0 * b0 + a1 * 19 * b4) _ _ _ (by omega) (by omega) (by omega) (by omega) (by simp [go_sem]) (by simp [go_sem]) (by simp [go_sem]) (by simp [go_sem])).mono ?_; rintro e w' ⟨rfl, rfl⟩)
  rw [rounds_succ]; go_wp2_with (go_at_call 24; refine (sumadd_any _ _ (a0 * b1 + a1 * b0) _ _ _ (by omega) (by omega) (by omega) (by omega) (by simp [go_sem]) (by simp [go_sem]) (by simp [go_sem]) (by simp [go_sem])).mono ?_; rintro e w' ⟨rfl, rfl⟩)
  rw [rounds_succ]; go_wp2
  rw [rounds_succ]; go_wp2
  refine wp_loop_rounds 6 ?_
  rw [rounds_succ]; go_wp2_with (go_at_call 24; refine (sumadd_any _ _ (a0 * b3 + a1 * b2 + a2 * b1) _ _ _ (by omega) (by omega) (by omega) (by omega) (by simp [go_sem]) (by simp [go_sem]) (by simp [go_sem]) (by simp [go_sem])).mono ?_; rintro e w' ⟨rfl, rfl⟩)
  rw [rounds_succ]; go_wp2_with (go_at_call 24; refine (sumadd_any _ _ (a0 * b4 + a1 * b3 + a2 * b2) _ _ _ (by omega) (by omega) (by omega) (by omega) (by simp [go_sem]) (by simp [go_sem]) (by simp [go_sem]) (by simp [go_sem])).mono ?_; rintro e w' ⟨rfl, rfl⟩)
  rw [rounds_succ]; go_wp2_with (go_at_call 24; refine (sumadd_any _ _ (a0 * b0 + a1 * 19 * b4 + a2 * 19 * b3) _ _ _ (by omega) (by omega) (by omega) (by omega) (by simp [go_sem]) (by simp [go_sem]) (by simp [go_sem]) (by simp [go_sem])).mono ?_; rintro e w' ⟨rfl, rfl⟩)
  rw [rounds_succ]; go_wp2_with (go_at_call 24; refine (sumadd_any _ _ (a0 * b1 + a1 * b0 + a2 * 19 * b4) _ _ _ (by omega) (by omega) (by omega) (by omega) (by simp [go_sem]) (by simp [go_sem]) (by simp [go_sem]) (by simp [go_sem])).mono ?_; rintro e w' ⟨rfl, rfl⟩)
  rw [rounds_succ]; go_wp2_with (go_at_call 24; refine (sumadd_any _ _ (a0 * b2 + a1 * b1 + a2 * b0) _ _ _ (by omega) (by omega) (by omega) (by omega) (by simp [go_sem]) (by simp [go_sem]) (by simp [go_sem]) (by simp [go_sem])).mono ?_; rintro e w' ⟨rfl, rfl⟩)
  rw [rounds_succ]; go_wp2
  rw [rounds_succ]; go_wp2
  refine wp_loop_rounds 6 ?_
  rw [rounds_succ]; go_wp2_with (go_at_call 24; refine (sumadd_any _ _ (a0 * b4 + a1 * b3 + a2 * b2 + a3 * b1) _ _ _ (by omega) (by omega) (by omega) (by omega) (by simp [go_sem]) (by simp [go_sem]) (by simp [go_sem]) (by simp [go_sem])).mono ?_; rintro e w' ⟨rfl, rfl⟩)
  rw [rounds_succ]; go_wp2_with (go_at_call 24; refine (sumadd_any _ _ (a0 * b0 + a1 * 19 * b4 + a2 * 19 * b3 + a3 * 19 * b2) _ _ _ (by omega) (by omega) (by omega) (by omega) (by simp [go_sem]) (by simp [go_sem]) (by simp [go_sem]) (by simp [go_sem])).mono ?_; rintro e w' ⟨rfl, rfl⟩)
  rw [rounds_succ]; go_wp2_with (go_at_call 24; refine (sumadd_any _ _ (a0 * b1 + a1 * b0 + a2 * 19 * b4 + a3 * 19 * b3) _ _ _ (by omega) (by omega) (by omega) (by omega) (by simp [go_sem]) (by simp [go_sem]) (by simp [go_sem]) (by simp [go_sem])).mono ?_; rintro e w' ⟨rfl, rfl⟩)
  rw [rounds_succ]; go_wp2_with (go_at_call 24; refine (sumadd_any _ _ (a0 * b2 + a1 * b1 + a2 * b0 + a3 * 19 * b4) _ _ _ (by omega) (by omega) (by omega) (by omega) (by simp [go_sem]) (by simp [go_sem]) (by simp [go_sem]) (by simp [go_sem])).mono ?_; rintro e w' ⟨rfl, rfl⟩)
  rw [rounds_succ]; go_wp2_with (go_at_call 24; refine (sumadd_any _ _ (a0 * b3 + a1 * b2 + a2 * b1 + a3 * b0) _ _ _ (by omega) (by omega) (by omega) (by omega) (by simp [go_sem]) (by simp [go_sem]) (by simp [go_sem]) (by simp [go_sem])).mono ?_; rintro e w' ⟨rfl, rfl⟩)
  rw [rounds_succ]; go_wp2
  rw [rounds_succ]; go_wp2
  have q0 : 0 ≤ a0 * b0 + a1 * 19 * b4 + a2 * 19 * b3 + a3 * 19 * b2 + a4 * 19 * b1 ∧ a0 * b0 + a1 * 19 * b4 + a2 * 19 * b3 + a3 * 19 * b2 + a4 * 19 * b1 < 10384593717069655257060992658440192 := by omega
  have q1 : 0 ≤ a0 * b1 + a1 * b0 + a2 * 19 * b4 + a3 * 19 * b3 + a4 * 19 * b2 ∧ a0 * b1 + a1 * b0 + a2 * 19 * b4 + a3 * 19 * b3 + a4 * 19 * b2 < 10384593717069655257060992658440192 := by omega
  have q2 : 0 ≤ a0 * b2 + a1 * b1 + a2 * b0 + a3 * 19 * b4 + a4 * 19 * b3 ∧ a0 * b2 + a1 * b1 + a2 * b0 + a3 * 19 * b4 + a4 * 19 * b3 < 10384593717069655257060992658440192 := by omega
  have q3 : 0 ≤ a0 * b3 + a1 * b2 + a2 * b1 + a3 * b0 + a4 * 19 * b4 ∧ a0 * b3 + a1 * b2 + a2 * b1 + a3 * b0 + a4 * 19 * b4 < 10384593717069655257060992658440192 := by omega
  have q4 : 0 ≤ a0 * b4 + a1 * b3 + a2 * b2 + a3 * b1 + a4 * b0 ∧ a0 * b4 + a1 * b3 + a2 * b2 + a3 * b1 + a4 * b0 < 10384593717069655257060992658440192 := by omega
  generalize hs0 : a0 * b0 + a1 * 19 * b4 + a2 * 19 * b3 + a3 * 19 * b2 + a4 * 19 * b1 = s0 at *
  generalize hs1 : a0 * b1 + a1 * b0 + a2 * 19 * b4 + a3 * 19 * b3 + a4 * 19 * b2 = s1 at *
  generalize hs2 : a0 * b2 + a1 * b1 + a2 * b0 + a3 * 19 * b4 + a4 * 19 * b3 = s2 at *
  generalize hs3 : a0 * b3 + a1 * b2 + a2 * b1 + a3 * b0 + a4 * 19 * b4 = s3 at *
  generalize hs4 : a0 * b4 + a1 * b3 + a2 * b2 + a3 * b1 + a4 * b0 = s4 at *
  clear p00 p01 p02 p03 p04 p10 p11 p12 p13 p14 p20 p21 p22 p23 p24 p30 p31 p32 p33 p34 p40 p41 p42 p43 p44 ha0 ha1 ha2 ha3 ha4 hb0 hb1 hb2 hb3 hb4
  have f0 : s0 / 18446744073709551616 + s0 % 18446744073709551616 / 18446744073709551616 = s0 / 18446744073709551616 := by omega
  have g0 := orsh s0 q0.1 (by omega)
  have m0 := maskM s0 q0.1
  refine wp_loop_rounds 6 ?_
  rw [rounds_succ]
  go_wp2_with (first | (rw [run_a64 _ _ _ (by omega) (by omega) (by omega) (by omega)]))
  go_region
  go_wp2
  clear f0 g0 m0
  have r1 : 0 ≤ (s0) / 2251799813685248 ∧ (s0) / 2251799813685248 < 18446744073709551616 := by omega
  generalize hc1 : (s0) / 2251799813685248 = c1 at *
  have f1 : s1 / 18446744073709551616 + (s1 % 18446744073709551616 + c1) / 18446744073709551616 = (s1 + c1) / 18446744073709551616 := by omega
  have g1 := orsh (s1 + c1) (by omega) (by omega)
  have m1 := maskM (s1 + c1) (by omega)
  rw [rounds_succ]
  go_wp2_with (first | (rw [run_a64 _ _ _ (by omega) (by omega) (by omega) (by omega)]))
  go_region
  go_wp2
  clear f1 g1 m1
  have r2 : 0 ≤ (s1 + c1) / 2251799813685248 ∧ (s1 + c1) / 2251799813685248 < 18446744073709551616 := by omega
  generalize hc2 : (s1 + c1) / 2251799813685248 = c2 at *
  have f2 : s2 / 18446744073709551616 + (s2 % 18446744073709551616 + c2) / 18446744073709551616 = (s2 + c2) / 18446744073709551616 := by omega
  have g2 := orsh (s2 + c2) (by omega) (by omega)
  have m2 := maskM (s2 + c2) (by omega)
  rw [rounds_succ]
  go_wp2_with (first | (rw [run_a64 _ _ _ (by omega) (by omega) (by omega) (by omega)]))
  go_region
  go_wp2
  clear f2 g2 m2
  have r3 : 0 ≤ (s2 + c2) / 2251799813685248 ∧ (s2 + c2) / 2251799813685248 < 18446744073709551616 := by omega
  generalize hc3 : (s2 + c2) / 2251799813685248 = c3 at *
  have f3 : s3 / 18446744073709551616 + (s3 % 18446744073709551616 + c3) / 18446744073709551616 = (s3 + c3) / 18446744073709551616 := by omega
  have g3 := orsh (s3 + c3) (by omega) (by omega)
  have m3 := maskM (s3 + c3) (by omega)
  rw [rounds_succ]
  go_wp2_with (first | (rw [run_a64 _ _ _ (by omega) (by omega) (by omega) (by omega)]))
  go_region
  go_wp2
  clear f3 g3 m3
  have r4 : 0 ≤ (s3 + c3) / 2251799813685248 ∧ (s3 + c3) / 2251799813685248 < 18446744073709551616 := by omega
  generalize hc4 : (s3 + c3) / 2251799813685248 = c4 at *
  have f4 : s4 / 18446744073709551616 + (s4 % 18446744073709551616 + c4) / 18446744073709551616 = (s4 + c4) / 18446744073709551616 := by omega
  have g4 := orsh (s4 + c4) (by omega) (by omega)
  have m4 := maskM (s4 + c4) (by omega)
  rw [rounds_succ]
  go_wp2_with (first | (rw [run_a64 _ _ _ (by omega) (by omega) (by omega) (by omega)]))
  go_region
  go_wp2
  clear f4 g4 m4
  have r5 : 0 ≤ (s4 + c4) / 2251799813685248 ∧ (s4 + c4) / 2251799813685248 < 9223372036854775808 := by omega
  generalize hc5 : (s4 + c4) / 2251799813685248 = c5 at *
  have fd : c5 * 19 / 18446744073709551616 + (c5 * 19 % 18446744073709551616 + s0 % 2251799813685248) / 18446744073709551616 = (c5 * 19 + s0 % 2251799813685248) / 18446744073709551616 := by omega
  have gd := orsh (c5 * 19 + s0 % 2251799813685248) (by omega) (by omega)
  have md := maskM (c5 * 19 + s0 % 2251799813685248) (by omega)
  rw [rounds_succ]
  go_wp2_with (first | (rw [run_a64 _ _ _ (by omega) (by omega) (by omega) (by omega)]) | (go_at_call 26; refine (mul64_any _ _ (by omega) (by omega) _).mono ?_; rintro e w' ⟨rfl, rfl⟩) | (go_at_call 23; refine (carry_any _ _ _ _ _ _ (by omega) (by omega) (by omega) (by omega) (by omega)).mono ?_; rintro e w' ⟨rfl, hb⟩; obtain ⟨hc, hf⟩ := bcell hb))
  trace "A"
  refine bodyPost_ret (by simp [results, Tryd.results10, go_sem, hc]; rfl) rfl ?_
  have t0 : mt0 a0 a1 a2 a3 a4 b0 b1 b2 b3 b4 = s0 := hs0
  have t1 : mt1 a0 a1 a2 a3 a4 b0 b1 b2 b3 b4 = s1 + c1 := by unfold mt1; rw [t0, hc1, ← hs1]
  have t2 : mt2 a0 a1 a2 a3 a4 b0 b1 b2 b3 b4 = s2 + c2 := by unfold mt2; rw [t1, hc2, ← hs2]
  have t3 : mt3 a0 a1 a2 a3 a4 b0 b1 b2 b3 b4 = s3 + c3 := by unfold mt3; rw [t2, hc3, ← hs3]
  have t4 : mt4 a0 a1 a2 a3 a4 b0 b1 b2 b3 b4 = s4 + c4 := by unfold mt4; rw [t3, hc4, ← hs4]
  have td : mtd a0 a1 a2 a3 a4 b0 b1 b2 b3 b4 = c5 * 19 + s0 % 2251799813685248 := by unfold mtd; rw [t4, t0, hc5]
  rw [t0, t1, t2, t3, t4, td, hc5]
  refine ⟨?_, ?_⟩
  · clear t0 t1 t2 t3 t4 td hs0 hs1 hs2 hs3 hs4 hb hc hf hc1 hc2 hc3 hc4 hc5 r1 r2 r3 r4 r5 q0 q1 q2 q3 q4 fd gd md
    refine ret_el ?_ ?_ ?_ ?_ ?_ <;> simp only [cr1, cr2, cr3, cr4, Int.emod_emod_of_dvd, Int.emod_add_emod, Int.dvd_refl]
  trace "C"
  go_grown
  refine Below.trans ?_ (hb.mono (by simp; omega))
  go_grown

end Go.Proofs.YtbonnnakebfniaaDoor
