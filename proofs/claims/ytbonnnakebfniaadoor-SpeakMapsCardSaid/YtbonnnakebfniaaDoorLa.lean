/- curve: the ladder, as elements and as numbers of the field. -/
import Derived.Test.YtbonnnakebfniaaDoorWo
namespace Go.Mx
open Go Go.RowKit

/-- A row of things, each made of the one before. -/
theorem chain {α : Type} (I : Nat → α → Prop) (R : Nat → α → α → Prop) (a0 : α) (h0 : I 0 a0) (hs : ∀ k a, I k a → ∃ b, I (k + 1) b ∧ R k a b) : ∃ f : Nat → α, f 0 = a0 ∧ (∀ k, I k (f k)) ∧ ∀ k, R k (f k) (f (k + 1)) := by
  let g : (k : Nat) → { a : α // I k a } := fun k => Nat.rec (motive := fun k => { a : α // I k a }) ⟨a0, h0⟩ (fun k x => ⟨Classical.choose (hs k x.1 x.2), (Classical.choose_spec (hs k x.1 x.2)).1⟩) k
  exact ⟨fun k => (g k).1, rfl, fun k => (g k).2, fun k => (Classical.choose_spec (hs k (g k).1 (g k).2)).2⟩

section
variable {P : Program} {ops : Array Oper} {w0 : World} {S : List Nat} {m : List Cl} {o : Oper} {ρ : Operand → Value}
theorem g_neqBool {t u : TypeId} {x y : Operand} {a b : Bool} (ho : o.op = .binOp .neq t x y u) (hx : ρ x = .bool a) (hy : ρ y = .bool b) (hu : P.underlying t = some .bool) : GV P w0 S m o ρ (.bool (a != b)) :=
  g_binOp ho hx hy fun w => by
    have h : (Op.equal t (.bool a) (.bool b)).run P w = .ok (a == b) w := run_equal_bool w t a b hu
    simp only [eqGuard, binOp, Sem.run_bind]
    simp [h, Result.andThen]
    cases a <;> cases b <;> rfl
end
theorem geq_nat {k : IntKind} (a : Nat) : intV .geq k (a : Int) 0 = .bool true := by
  refine congrArg Value.bool (decide_eq_true ?_)
  omega
theorem sub_nat {k : Nat} (hk : k < 255) : intV .sub .i64 ((254 - k : Nat) : Int) 1 = .int .i64 (254 - ((k + 1 : Nat) : Int)) := by
  have e : ((254 - k : Nat) : Int) - 1 = 254 - ((k + 1 : Nat) : Int) := by omega
  refine congrArg (Value.int .i64) ?_
  rw [e]
  generalize ((k + 1 : Nat) : Int) = q at *
  have h1 : -1 ≤ 254 - q := by omega
  have h2 : 254 - q ≤ 254 := by omega
  generalize 254 - q = r at *
  show IntKind.i64.wrap r = r
  simp [IntKind.wrap, IntKind.bits, IntKind.signed]
  omega

/-- What a scalar becomes: bits 0, 1, 2 and 255 go, bit 254 comes. -/
def clampB (x : Nat) (j : Nat) : Bool := decide (j = 254) || (decide (3 ≤ j) && x.testBit j)
def clampN (x : Nat) : Nat := val (clampB x) 255
theorem clamp_bit (x j : Nat) : (clampN x).testBit j = (decide (j < 255) && clampB x j) := val_bit _ _ _

theorem andNot7 (a : Nat) (h : a < 2 ^ 8) : intV .andNot .u8 (a : Int) 7 = .int .u8 ((a &&& 248 : Nat) : Int) := by
  have key : ∀ a : Fin 256, intV .andNot .u8 ((a.val : Nat) : Int) 7 = .int .u8 ((a.val &&& 248 : Nat) : Int) := by
    have k2 : ∀ a : Fin 256, IntKind.u8.wrap ((BitVec.ofInt 8 ((a.val : Nat) : Int) &&& ~~~ BitVec.ofInt 8 7).toNat : Int) = ((a.val &&& 248 : Nat) : Int) := by decide +kernel
    intro a
    exact congrArg (Value.int .u8) (k2 a)
  exact key ⟨a, h⟩

theorem c248 (i : Nat) : Nat.testBit 248 i = (decide (3 ≤ i) && decide (i < 8)) := by
  by_cases h : i < 8
  · have : ∀ i : Fin 8, Nat.testBit 248 i.val = (decide (3 ≤ i.val) && decide (i.val < 8)) := by decide
    exact this ⟨i, h⟩
  · rw [Nat.testBit_lt_two_pow (Nat.lt_of_lt_of_le (by decide : 248 < 2 ^ 8) (Nat.pow_le_pow_right (by decide) (by omega)))]
    simp [h]
theorem c63 (i : Nat) : Nat.testBit 63 i = decide (i < 6) := by
  rw [show 63 = 2 ^ 6 - 1 from rfl, Nat.testBit_two_pow_sub_one]
theorem c64 (i : Nat) : Nat.testBit 64 i = decide (i = 6) := by
  rw [show 64 = 2 ^ 6 from rfl, Nat.testBit_two_pow]
  exact decide_eq_decide.2 eq_comm

theorem clamp_upd (x : Nat) : ∀ i, i < 32 → upd (upd (dgF 8 x) 0 ((dg 8 x 0 &&& 248 : Nat) : Int)) 31 ((dg 8 x 31 &&& 63 ||| 64 : Nat) : Int) i = dgF 8 (clampN x) i := by
  intro i hi
  unfold upd dgF
  by_cases h31 : i = 31
  · subst h31
    rw [if_pos rfl]
    congr 1
    refine Nat.eq_of_testBit_eq fun j => ?_
    rw [Nat.testBit_or, Nat.testBit_and, dg_bit, dg_bit, clamp_bit, c63, c64]
    unfold clampB
    by_cases h6 : j < 6
    · have e1 : decide (j < 8) = true := by simp; omega
      have e2 : decide (8 * 31 + j < 255) = true := by simp; omega
      have e3 : decide (8 * 31 + j = 254) = false := by simp; omega
      have e4 : decide (3 ≤ 8 * 31 + j) = true := by simp; omega
      have e5 : decide (j = 6) = false := by simp; omega
      simp [e1, e2, e3, e4, e5, h6]
    · by_cases h7 : j = 6
      · subst h7; simp
      · have e1 : decide (8 * 31 + j < 255) = false := by simp; omega
        simp [e1, h6, h7]
  · rw [if_neg h31]
    by_cases h0 : i = 0
    · subst h0
      rw [if_pos rfl]
      congr 1
      refine Nat.eq_of_testBit_eq fun j => ?_
      rw [Nat.testBit_and, dg_bit, dg_bit, clamp_bit, c248]
      unfold clampB
      by_cases h8 : j < 8
      · have e1 : decide (8 * 0 + j < 255) = true := by simp; omega
        have e2 : decide (8 * 0 + j = 254) = false := by simp; omega
        simp only [Nat.mul_zero, Nat.zero_add] at *
        simp [e1, e2, h8, Bool.and_comm]
      · simp [h8]
    · rw [if_neg h0]
      congr 1
      refine Nat.eq_of_testBit_eq fun j => ?_
      rw [dg_bit, dg_bit, clamp_bit]
      unfold clampB
      by_cases h8 : j < 8
      · have e1 : decide (8 * i + j < 255) = true := by simp; omega
        have e2 : decide (8 * i + j = 254) = false := by simp; omega
        have e3 : decide (3 ≤ 8 * i + j) = true := by simp; omega
        simp [e1, e2, e3]
      · simp [h8]
end Go.Mx
namespace Go.Proofs.YtbonnnakebfniaaDoor
open Go Go.RowKit Num Mx

/-- Were both changed in the round before? -/
def wasB (bit : Nat → Bool) : Nat → Bool
  | 0 => false
  | k + 1 => bit (254 - k)
abbrev swB (bit : Nat → Bool) (k : Nat) : Bool := bit (254 - k) != wasB bit k

structure F4 where
  ax : F
  az : F
  bx : F
  bz : F

def F4.swap (is : Bool) (f : F4) : F4 := ⟨if is then f.bx else f.ax, if is then f.bz else f.az, if is then f.ax else f.bx, if is then f.az else f.bz⟩
def F4.step (mx : F) (f : F4) : F4 :=
  ⟨(f.ax + f.az) * (f.ax + f.az) * ((f.ax - f.az) * (f.ax - f.az)),
   ((f.ax + f.az) * (f.ax + f.az) - (f.ax - f.az) * (f.ax - f.az)) * ((f.ax + f.az) * (f.ax + f.az) + toF 121665 * ((f.ax + f.az) * (f.ax + f.az) - (f.ax - f.az) * (f.ax - f.az))),
   ((f.bx - f.bz) * (f.ax + f.az) + (f.bx + f.bz) * (f.ax - f.az)) * ((f.bx - f.bz) * (f.ax + f.az) + (f.bx + f.bz) * (f.ax - f.az)),
   mx * (((f.bx - f.bz) * (f.ax + f.az) - (f.bx + f.bz) * (f.ax - f.az)) * ((f.bx - f.bz) * (f.ax + f.az) - (f.bx + f.bz) * (f.ax - f.az)))⟩
/-- The ladder, on numbers. -/
def lad (bit : Nat → Bool) (mx : F) : Nat → F4
  | 0 => ⟨toF 1, 0, mx, toF 1⟩
  | k + 1 => ((lad bit mx k).swap (swB bit k)).step mx

structure El4 where
  ax : El
  az : El
  bx : El
  bz : El
structure Is4 (e : El4) (f : F4) : Prop where
  ax : IsL e.ax f.ax
  az : IsL e.az f.az
  bx : IsL e.bx f.bx
  bz : IsL e.bz f.bz
/-- One step, as a call, both changed ahead of it. -/
def StepR (x : El) (is : Bool) (e g : El4) : Prop := ∀ (w : World) {pa pb : Nat}, w.heap[pa]? = some (.cells (pt2 (if is then e.bx else e.ax) (if is then e.bz else e.az)) 81 (0, 0)) → w.heap[pb]? = some (.cells (pt2 (if is then e.ax else e.bx) (if is then e.az else e.bz)) 81 (0, 0)) → pa ≠ pb →
  Calls Tryd.prog 37 #[x.v, .pointer (some ⟨pa, 0, none⟩), .pointer (some ⟨pb, 0, none⟩)] w fun r w' => r = .returned (.tuple #[]) ∧ Wrote w w' [⟨pa, pt2 g.ax g.az, 81, true⟩, ⟨pb, pt2 g.bx g.bz, 81, true⟩]

theorem ladder_E (bit : Nat → Bool) {x : El} {mx : F} (hx : IsL x mx) : ∃ f : Nat → El4, f 0 = ⟨⟨1, 0, 0, 0, 0⟩, ⟨0, 0, 0, 0, 0⟩, x, ⟨1, 0, 0, 0, 0⟩⟩ ∧ (∀ k, Is4 (f k) (lad bit mx k)) ∧ ∀ k, StepR x (swB bit k) (f k) (f (k + 1)) := by
  refine chain (fun k e => Is4 e (lad bit mx k)) (fun k e g => StepR x (swB bit k) e g) _ ⟨(small_E 1 (by decide)).1, zero_is, hx, (small_E 1 (by decide)).1⟩ fun k e he => ?_
  obtain ⟨cx, cz, dx, dz, h1, h2, h3, h4, hc⟩ := step_W hx (is_choose (b := swB bit k) he.bx he.ax rfl) (is_choose (b := swB bit k) he.bz he.az rfl) (is_choose (b := swB bit k) he.ax he.bx rfl) (is_choose (b := swB bit k) he.az he.bz rfl)
  exact ⟨⟨cx, cz, dx, dz⟩, ⟨h1, h2, h3, h4⟩, fun w pa pb ha hb hne => hc w ha hb hne⟩

end Go.Proofs.YtbonnnakebfniaaDoor
