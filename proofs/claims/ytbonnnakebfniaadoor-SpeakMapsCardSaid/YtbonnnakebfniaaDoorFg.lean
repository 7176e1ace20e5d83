/- field: Small, power. -/
import Derived.Test.YtbonnnakebfniaaDoorFe
import Derived.Deep.LoopGhost
namespace Go.Proofs.YtbonnnakebfniaaDoor
open Go Go.RowKit Num

set_option maxHeartbeats 1000000 in
theorem small_any (n : Int) (w : World) (h : 0 ≤ n ∧ n < 2251799813685248) :
    Calls Tryd.prog 8 #[.int .u64 n] w fun e w' => e = .returned (elV n 0 0 0 0) ∧ Below w.heap.size w w' := by
  have hm : bits .and .u64 n 2251799813685247 = n := by
    rw [mask51 n h.1 (by omega)]; omega
  have hs : n / 2251799813685248 = 0 := by omega
  go_enter Tryd.func8, Tryd.ntmps8
  go_wp2
  refine bodyPost_ret (by simp [results, Tryd.results8, go_sem]; rfl) rfl ?_
  refine ⟨by simp [elV], ?_⟩
  go_grown

theorem small_E (n : Int) (h : 0 ≤ n ∧ n < 2251799813685248) : IsL ⟨n, 0, 0, 0, 0⟩ (toF n) ∧ Pure 8 #[.int .u64 n] (El.mk n 0 0 0 0).v :=
  ⟨⟨⟨h.1, Int.lt_trans h.2 (by decide)⟩, ⟨Int.le_refl 0, (by decide : (0 : Int) < 2251799813947392)⟩, ⟨Int.le_refl 0, (by decide : (0 : Int) < 2251799813947392)⟩, ⟨Int.le_refl 0, (by decide : (0 : Int) < 2251799813947392)⟩, ⟨Int.le_refl 0, (by decide : (0 : Int) < 2251799813947392)⟩, by simp only [El.n, lv]; congr 1; omega⟩, fun w => small_any n w h⟩

/-- Square and multiply: a row of elements, and its exponents. -/
def bitOf (low : Nat) (k : Nat) : Bool := decide (k ≤ 246) || (low >>> (254 - k)) % 2 == 1
def expo (low : Nat) : Nat → Nat
  | 0 => 0
  | k + 1 => 2 * expo low k + if bitOf low k then 1 else 0

structure Powers (low : Nat) (a : El) (m : F) (f s : Nat → El) : Prop where
  zero : f 0 = ⟨1, 0, 0, 0, 0⟩
  is_ : ∀ k, IsL (f k) (pw m (expo low k))
  sq : ∀ k, Pure 45 #[(f k).v] (s k).v
  yes : ∀ k, bitOf low k = true → Pure 10 #[(s k).v, a.v] (f (k + 1)).v
  no : ∀ k, bitOf low k = false → s k = f (k + 1)

theorem powers (low : Nat) {a : El} {m : F} (ha : IsL a m) : ∃ f s, Powers low a m f s := by
  let S := Σ' e : El, { n : F // IsL e n }
  have hs : ∀ x : S, ∃ c : El, IsL c (x.2.1 * x.2.1) ∧ Pure 45 #[x.1.v] c.v := fun x => sq_E x.2.2
  have hm : ∀ x : S, ∃ c : El, IsL c (x.2.1 * x.2.1 * m) ∧ Pure 10 #[(Classical.choose (hs x)).v, a.v] c.v := fun x => mul_E (Classical.choose_spec (hs x)).1 ha
  let step : Nat → S → S := fun k x => if bitOf low k then ⟨Classical.choose (hm x), _, (Classical.choose_spec (hm x)).1⟩ else ⟨Classical.choose (hs x), _, (Classical.choose_spec (hs x)).1⟩
  let g : Nat → S := fun k => Nat.rec ⟨⟨1, 0, 0, 0, 0⟩, toF 1, (small_E 1 (by decide)).1⟩ step k
  have hg : ∀ k, g (k + 1) = step k (g k) := fun k => rfl
  have ht : ∀ k x, bitOf low k = true → step k x = ⟨Classical.choose (hm x), _, (Classical.choose_spec (hm x)).1⟩ := fun k x h => if_pos h
  have hf : ∀ k x, bitOf low k = false → step k x = ⟨Classical.choose (hs x), _, (Classical.choose_spec (hs x)).1⟩ := fun k x h => if_neg (by rw [h]; exact Bool.false_ne_true)
  have hn : ∀ k, (g k).2.1 = pw m (expo low k) := by
    intro k
    induction k with
    | zero => exact toF_one
    | succ k ih =>
      rw [hg]
      show (step k (g k)).2.1 = _
      rw [expo]
      cases hb : bitOf low k
      · have : (step k (g k)).2.1 = (g k).2.1 * (g k).2.1 := by rw [hf k _ hb]
        rw [this, ih, if_neg (by decide), Nat.add_zero, Nat.two_mul, pw_add]
      · have : (step k (g k)).2.1 = (g k).2.1 * (g k).2.1 * m := by rw [ht k _ hb]
        rw [this, ih, if_pos rfl, pw_succ, Nat.two_mul, pw_add]
  refine ⟨fun k => (g k).1, fun k => Classical.choose (hs (g k)), rfl, fun k => ?_, fun k => (Classical.choose_spec (hs (g k))).2, fun k hb => ?_, fun k hb => ?_⟩
  · rw [← hn k]; exact (g k).2.2
  · have : (g (k + 1)).1 = Classical.choose (hm (g k)) := by rw [hg, ht k _ hb]
    rw [this]; exact (Classical.choose_spec (hm (g k))).2
  · have : (g (k + 1)).1 = Classical.choose (hs (g k)) := by rw [hg, hf k _ hb]
    exact this.symm

end Go.Proofs.YtbonnnakebfniaaDoor
