/- field: limbs and bytes by their bits. -/
import Derived.Test.YtbonnnakebfniaaDoorRt
import Derived.Test.YtbonnnakebfniaaDoorSc
namespace Go.Mx
open Go Go.RowKit
/-- Digits of w bits, as numbers. -/
def dgF (w x : Nat) (q : Nat) : Int := ((dg w x q : Nat) : Int)
theorem dgF_zero {k : IntKind} {n w : Nat} (β : Nat → Bool) : arr k n (dgF w (val β 0)) = arr k n fun _ => 0 := arr_congr fun i _ => by simp [dgF, val, dg]
theorem dgF_step {w n : Nat} (β : Nat → Bool) (hw : 0 < w) : ∀ q, upd (dgF w (val β n)) (n / w) ((dg w (val β n) (n / w) ||| ((β n).toNat <<< (n % w)) : Nat) : Int) q = dgF w (val β (n + 1)) q := dg_val_upd β hw
end Go.Mx
namespace Go.Proofs.YtbonnnakebfniaaDoor
open Go Go.RowKit Num Mx

theorem dig_eq (x : Nat) (_h : x < 57896044618658097711785492504343953926634992332820282019728792003956564819968) : (digE (x : Int)).v = .agg (arr .u64 5 (dgF 51 x)) := by
  have e : arr .u64 5 (dgF 51 x) = #[.int .u64 (dgF 51 x 0), .int .u64 (dgF 51 x 1), .int .u64 (dgF 51 x 2), .int .u64 (dgF 51 x 3), .int .u64 (dgF 51 x 4)] := rfl
  rw [e]
  have h0 : dgF 51 x 0 = (x : Int) % 2251799813685248 := by simp [dgF, dg, Nat.shiftRight_eq_div_pow]
  have h1 : dgF 51 x 1 = (x : Int) / 2251799813685248 % 2251799813685248 := by simp [dgF, dg, Nat.shiftRight_eq_div_pow]
  have h2 : dgF 51 x 2 = (x : Int) / 5070602400912917605986812821504 % 2251799813685248 := by simp [dgF, dg, Nat.shiftRight_eq_div_pow]
  have h3 : dgF 51 x 3 = (x : Int) / 11417981541647679048466287755595961091061972992 % 2251799813685248 := by simp [dgF, dg, Nat.shiftRight_eq_div_pow]
  have h4 : dgF 51 x 4 = (x : Int) / 25711008708143844408671393477458601640355247900524685364822016 % 2251799813685248 := by simp [dgF, dg, Nat.shiftRight_eq_div_pow]
  rw [h0, h1, h2, h3, h4]

theorem fval_lt (m : F) : m.val < 57896044618658097711785492504343953926634992332820282019728792003956564819968 := Nat.lt_trans m.isLt (by decide)

theorem least_A {a : El} {m : F} (ha : IsL a m) : Pure 28 #[a.v] (.agg (arr .u64 5 (dgF 51 m.val))) := by
  rw [← dig_eq m.val (fval_lt m)]
  exact least_E ha

theorem dig_is (x : Nat) (h : x < 57896044618658097711785492504343953926634992332820282019728792003956564819968) : IsL (digE (x : Int)) (toF (x : Int)) := by
  have h1 := dig_n (n := (x : Int)) (by omega)
  refine ⟨?_, ?_, ?_, ?_, ?_, by rw [h1]⟩ <;> simp only <;> omega

/-- How many bits have been read: of byte i the first k. -/
def lm (i k : Nat) : Nat := min (8 * i + k) 255
theorem lm_lt {i k : Nat} (h : 8 * i + k < 255) : lm i k = 8 * i + k := by unfold lm; omega
theorem lm_succ {i k : Nat} (h : 8 * i + k < 255) : lm i (k + 1) = 8 * i + k + 1 := by unfold lm; omega
theorem lm_ge {i k : Nat} (h : ¬ 8 * i + k < 255) : lm i (k + 1) = lm i k := by unfold lm; omega
theorem lm_next (i : Nat) : lm (i + 1) 0 = lm i 8 := by unfold lm; omega

theorem dgF_bd (x q : Nat) : 0 ≤ dgF 8 x q ∧ dgF 8 x q < 256 := by
  have := dg_lt 8 x q
  unfold dgF
  omega

theorem val_mod (x n : Nat) : val x.testBit n = x % 2 ^ n := by
  refine Nat.eq_of_testBit_eq fun j => ?_
  rw [val_bit, Nat.testBit_mod_two_pow]

end Go.Proofs.YtbonnnakebfniaaDoor
