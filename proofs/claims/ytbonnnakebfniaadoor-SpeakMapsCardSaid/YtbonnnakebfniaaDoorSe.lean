/- Stepping a function: '==' of arrays of numbers. -/
import Derived.Test.YtbonnnakebfniaaDoorSz
import Derived.Laws.StructEq
namespace Go.Mx
open Go Go.RowKit
section
variable {P : Program}

theorem forIn_all {α β : Type} {body : α → β → Sem (ForInStep β)} {a b : β} {p : α → Bool} {w : World} : ∀ (l : List α), (∀ i ∈ l, (body i a).run P w = .ok (if p i then .yield a else .done b) w) → (forIn l a body).run P w = .ok (if l.all p then a else b) w
  | [], _ => by simp
  | i :: l, h => by
    have h1 := h i (by simp)
    have h2 := forIn_all l fun j hj => h j (List.mem_cons_of_mem _ hj)
    rw [List.forIn_cons, Sem.run_bind, h1]
    cases hp : p i
    · simp [hp]
    · simp only [hp, if_true, Result.andThen_ok, h2, List.all_cons, Bool.true_and]

theorem equalIn_arr {t e : TypeId} {n : Nat} {k : IntKind} (ht : P.underlying t = some (.array n e)) (he : P.underlying e = some (.int k)) (hs : ∀ w, (Go.sizeOf e).run P w = .ok 1 w) (d : Nat) (x y : Nat → Int) (xs ys : Array Value) (hx : ∀ i, i < n → xs[i]? = some (.int k (x i))) (hy : ∀ i, i < n → ys[i]? = some (.int k (y i))) (w : World) :
    (Op.equalIn (d + 2) t (.agg xs) (.agg ys)).run P w = .ok ((List.range n).all fun i => x i == y i) w := by
  have ha : ∀ w, (isAgg e).run P w = .ok false w := fun w => by
    unfold isAgg
    rw [Sem.run_bind, run_underlying he w]
    simp
  rw [Op.equalIn]
  simp only [Sem.run_bind, run_underlying ht, Result.andThen_ok, hs w]
  simp only [Std.Legacy.Range.forIn_eq_forIn_range', Std.Legacy.Range.size, Nat.sub_zero, Nat.add_sub_cancel, Nat.div_one]
  rw [forIn_all (p := fun i => x i == y i) (b := ⟨some false, ()⟩)]
  · rw [List.range_eq_range']
    cases (List.range' 0 n).all fun i => x i == y i <;> simp
  · intro i hi
    have hin : i < n := by simpa using (List.mem_range'_1.1 hi).2
    have p1 : (part e xs i).run P w = .ok (.int k (x i)) w := by simp [part, Sem.run_bind, ha w, hx i hin]
    have p2 : (part e ys i).run P w = .ok (.int k (y i)) w := by simp [part, Sem.run_bind, ha w, hy i hin]
    simp only [Nat.mul_one, Sem.run_bind, p1, p2, Result.andThen_ok, run_equalIn_int w d e k k (x i) (y i) he]
    cases x i == y i <;> simp

theorem all_eq_list : ∀ (n : Nat) (xs ys : List Int), xs.length = n → ys.length = n → ((List.range n).all fun i => xs.getD i 0 == ys.getD i 0) = decide (xs = ys) := by
  intro n xs ys hx hy
  rw [Bool.eq_iff_iff]
  simp only [List.all_eq_true, List.mem_range, beq_iff_eq, decide_eq_true_eq]
  constructor
  · intro h
    refine List.ext_getElem (by omega) fun i h1 h2 => ?_
    have := h i (by omega)
    simpa [List.getD_eq_getElem?_getD, h1, h2] using this
  · rintro rfl i _; rfl

variable {ops : Array Oper} {w0 : World} {S : List Nat} {m : List Cl} {o : Oper} {ρ : Operand → Value}

theorem ints_at {k : IntKind} {n : Nat} {xs : List Int} (hx : xs.length = n) : ∀ i, i < n → (xs.map (Value.int k)).toArray[i]? = some (.int k (xs.getD i 0)) := by
  intro i hi
  have : i < xs.length := by omega
  simp [List.getD_eq_getElem?_getD, this]

/-- Two arrays of numbers: are they the same? -/
theorem g_eqArr {t u e : TypeId} {n : Nat} {k : IntKind} {x y : Operand} (xs ys : List Int) {b : Bool} (ho : o.op = .binOp .eql t x y u) (hx : ρ x = .agg (xs.map (Value.int k)).toArray) (hy : ρ y = .agg (ys.map (Value.int k)).toArray) (ht : P.underlying t = some (.array n e)) (he : P.underlying e = some (.int k)) (hs : ∀ w, (Go.sizeOf e).run P w = .ok 1 w) (hm : P.eqGuardType P.depth t = false)
    (hxs : xs.length = n) (hys : ys.length = n) (hb : decide (xs = ys) = b) : GV P w0 S m o ρ (.bool b) :=
  g_binOp ho hx hy fun w => by
    rw [Sem.run_bind, run_eqGuard_agg w _ _ _ _ _ _ hm, Result.andThen_ok, run_eql_struct, equalIn_arr ht he hs 9998 (fun i => xs.getD i 0) (fun i => ys.getD i 0) _ _ (ints_at hxs) (ints_at hys), all_eq_list n xs ys hxs hys, hb]
    rfl

end
end Go.Mx
