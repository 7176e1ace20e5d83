/- The field's words at F; products: bits.Add64, sum.add. -/
import Derived.Test.YtbonnnakebfniaaDoorFa
import Derived.Test.YtbonnnakebfniaaDoorM7
import Derived.Test.YtbonnnakebfniaaDoorShelf
namespace Go.Proofs.YtbonnnakebfniaaDoor
open Go Go.RowKit

abbrev M64 : Int := 18446744073709551616

theorem run_a64 (x y c : Int) (hx : 0 ≤ x) (hy : 0 ≤ y) (hc0 : 0 ≤ c) (hc : c ≤ 1) (w : World) :
    (callFunc 25 #[.int .u64 x, .int .u64 y, .int .u64 c]).run Tryd.prog w = .ok (.value (.tuple #[.int .u64 ((x + y + c) % 18446744073709551616), .int .u64 ((x + y + c) / 18446744073709551616)])) w := by
  rw [run_callFunc_extern Tryd.func25 (by kernel_rfl) (by kernel_rfl) (by kernel_rfl) (e := add64Entry) (by kernel_rfl), run_add64 x y c hx hy hc0 hc]
  rfl

theorem mul64_any (x y : Int) (hx : 0 ≤ x ∧ x < 18446744073709551616) (hy : 0 ≤ y ∧ y < 18446744073709551616) (w : World) :
    Calls Tryd.prog 26 #[.int .u64 x, .int .u64 y] w fun e w' => e = .returned (.tuple #[.int .u64 (x * y / 18446744073709551616), .int .u64 (x * y % 18446744073709551616)]) ∧ w = w' := by
  obtain ⟨X, rfl⟩ := Int.eq_ofNat_of_zero_le hx.1
  obtain ⟨Y, rfl⟩ := Int.eq_ofNat_of_zero_le hy.1
  refine (Tryd.bits_Mul64 X Y (by omega) (by omega) w).mono ?_
  rintro e w' ⟨rfl, rfl⟩
  exact ⟨by simp, rfl⟩

/-- A product goes into a sum of two words. -/
theorem sumadd_any (b o : Nat) (s x y : Int) (w : World) (hx : 0 ≤ x ∧ x < 18446744073709551616) (hy : 0 ≤ y ∧ y < 18446744073709551616) (hs : 0 ≤ s) (hlt : s + x * y < 340282366920938463463374607431768211456)
    (h0 : w.cell? ⟨b, o, none⟩ = some (.int .u64 (s % 18446744073709551616))) (h1 : w.cell? ⟨b, o + 1, none⟩ = some (.int .u64 (s / 18446744073709551616)))
    (hf0 : w.frozen? ⟨b, o, none⟩ = false) (hf1 : w.frozen? ⟨b, o + 1, none⟩ = false) :
    Calls Tryd.prog 24 #[.pointer (some ⟨b, o, none⟩), .int .u64 x, .int .u64 y] w fun e w' => e = .returned (.tuple #[]) ∧
      w' = (w.setCell ⟨b, o, none⟩ (.int .u64 ((s + x * y) % 18446744073709551616))).setCell ⟨b, o + 1, none⟩ (.int .u64 ((s + x * y) / 18446744073709551616)) := by
  have hp0 : 0 ≤ x * y := Int.mul_nonneg hx.1 hy.1
  have e0 : (s / 18446744073709551616 + x * y / 18446744073709551616 + (s % 18446744073709551616 + x * y % 18446744073709551616) / 18446744073709551616) % 18446744073709551616 = (s + x * y) / 18446744073709551616 := by
    generalize x * y = p at *; omega
  go_enter Tryd.func24, Tryd.ntmps24
  go_wp2_with (first | (go_at_call 26; refine (mul64_any _ _ hx hy _).mono ?_; rintro e w' ⟨rfl, rfl⟩) | (rw [run_a64 _ _ _ (by omega) (by omega) (by omega) (by omega)]))
  go_end0
  exact ⟨rfl, rfl⟩

end Go.Proofs.YtbonnnakebfniaaDoor
