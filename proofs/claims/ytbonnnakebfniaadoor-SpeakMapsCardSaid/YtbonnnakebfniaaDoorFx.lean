/- field: two elements compared; what a choice is; how big an odd number. -/
import Derived.Test.YtbonnnakebfniaaDoorFz
import Derived.Test.YtbonnnakebfniaaDoorSe
namespace Go.Proofs.YtbonnnakebfniaaDoor
open Go Go.RowKit Num Mx

theorem eqElV (x y : Operand) (c d : El) (w : World) : (do eqGuard .eql 30 x y c.v d.v; binOp .eql 30 c.v d.v : Sem Value).run Tryd.prog w = .ok (.bool (decide (c.l0 = d.l0 ∧ c.l1 = d.l1 ∧ c.l2 = d.l2 ∧ c.l3 = d.l3 ∧ c.l4 = d.l4))) w := by
  have h := eq5 c.l0 c.l1 c.l2 c.l3 c.l4 d.l0 d.l1 d.l2 d.l3 d.l4 w
  have hs : Op.equalIn 10000 30 c.v d.v = Op.equalIn (9999 + 1) 30 c.v d.v := rfl
  have p : ∀ e : El, (part 28 #[.int .u64 e.l0, .int .u64 e.l1, .int .u64 e.l2, .int .u64 e.l3, .int .u64 e.l4] 0).run Tryd.prog w = .ok e.v w := by
    intro e
    simp [part, Sem.run_bind, Tryd.isAgg28, Tryd.sizeOf28]
  have hf : Tryd.prog.fieldsOf 30 = #[{ name := "l", type := 28, offset := 0, embedded := false, tag := "", pkgPath := "speakeasy/field", byteOffset := 0 }] := by kernel_rfl
  rw [Sem.run_bind, run_eqGuard_agg w _ _ _ _ _ _ (by kernel_rfl), Result.andThen_ok, run_eql_struct, hs, run_equalIn_agg w 9999 30 _ _ (by rw [hf]; exact Tryd.underlying30) (by kernel_rfl), hf]
  simp only [Op.eqFields, Sem.run_bind, Sem.run_ite, p c, p d, Result.andThen_ok, h]
  cases decide (c.l0 = d.l0 ∧ c.l1 = d.l1 ∧ c.l2 = d.l2 ∧ c.l3 = d.l3 ∧ c.l4 = d.l4) <;> simp

theorem least_same (m n : F) : decide ((leastE m).l0 = (leastE n).l0 ∧ (leastE m).l1 = (leastE n).l1 ∧ (leastE m).l2 = (leastE n).l2 ∧ (leastE m).l3 = (leastE n).l3 ∧ (leastE m).l4 = (leastE n).l4) = decide (m = n) := by
  refine decide_eq_decide.2 ⟨fun h => leastE_inj ?_, fun h => by subst h; exact ⟨rfl, rfl, rfl, rfl, rfl⟩⟩
  obtain ⟨h0, h1, h2, h3, h4⟩ := h
  generalize leastE m = a at *
  generalize leastE n = b at *
  cases a; cases b
  simp only at h0 h1 h2 h3 h4
  subst h0 h1 h2 h3 h4
  rfl

theorem eqLeast (x y : Operand) (m n : F) (w : World) : (do eqGuard .eql 30 x y (leastE m).v (leastE n).v; binOp .eql 30 (leastE m).v (leastE n).v : Sem Value).run Tryd.prog w = .ok (.bool (decide (m = n))) w := by
  rw [eqElV, least_same]

theorem is_choose {x y c : El} {m n : F} {b : Bool} (hx : IsL x m) (hy : IsL y n) (h : c = if b then x else y) : IsL c (if b then m else n) := by
  cases b
  · rw [h]; exact hy
  · rw [h]; exact hx

def oddF (m : F) : Bool := m.val % 2 == 1

end Go.Proofs.YtbonnnakebfniaaDoor
