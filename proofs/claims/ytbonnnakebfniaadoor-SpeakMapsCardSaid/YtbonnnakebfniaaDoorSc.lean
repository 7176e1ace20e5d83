/- Stepping a function: builtins; slices that the code builds; strings. -/
import Derived.Test.YtbonnnakebfniaaDoorSb
namespace Go.Mx
open Go Go.RowKit
section
variable {P : Program} {ops : Array Oper} {Q : Exit → Act → World → Prop} {A : Act} {n : Nat} {rest : List Oper} {o : Oper} {ps : Puts} {w0 w : World} {S : List Nat} {m : List Cl} {ρ : Operand → Value}

theorem run_builtin {b : Builtin} {as : Array Operand} {ts : Array TypeId} {vs : Array Value} (ho : o.op = .call { callee := .builtin b, args := as, argTypes := ts }) (ha' : as.toList.map ρ = vs.toList) (w : World) :
    (execOp ρ o).run P w = (builtin b ts o.type (as.map fun | .const _ => true | _ => false) vs).run P w := by
  have ha : as.map ρ = vs := by rw [← Array.toList_inj, Array.toList_map]; exact ha'
  simp only [execOp, ho, resolve, Sem.run_bind, Sem.run_pure, Result.andThen_ok, invoke, ha]
  rfl

theorem g_lenStr {x : Operand} {t : TypeId} {s : ByteArray} {n : Nat} (ho : o.op = .call { callee := .builtin .len, args := #[x], argTypes := #[t] }) (hx : ρ x = .string s) (hu : P.underlying t = some .string) (hn : s.size = n) : GV P w0 S m o ρ (.int .i64 (n : Int)) :=
  g_run fun w => by
    subst hn
    rw [run_builtin ho (vs := #[.string s]) (by simp [hx])]
    simp [builtin, Builtin.len_, Sem.run_bind, run_underlying hu w, goInt, Result.andThen]

theorem g_lenSl {x : Operand} {t e : TypeId} {a : Option Addr} {n c : Nat} (ho : o.op = .call { callee := .builtin .len, args := #[x], argTypes := #[t] }) (hx : ρ x = .slice a n c) (hu : P.underlying t = some (.slice e)) : GV P w0 S m o ρ (.int .i64 (n : Int)) :=
  g_run fun w => by
    rw [run_builtin ho (vs := #[.slice a n c]) (by simp [hx])]
    simp [builtin, Builtin.len_, Sem.run_bind, run_underlying hu w, goInt, Result.andThen]

theorem g_min2 {x y : Operand} {ts : Array TypeId} {k k' : IntKind} {a b c : Int} (ho : o.op = .call { callee := .builtin .min, args := #[x, y], argTypes := ts }) (hx : ρ x = .int k a) (hy : ρ y = .int k' b) (hc : (if b < a then b else a) = c) : GV P w0 S m o ρ (.int k c) :=
  g_run fun w => by
    subst hc
    rw [run_builtin ho (vs := #[.int k a, .int k' b]) (by simp [hx, hy])]
    simp [builtin, Builtin.min_, Builtin.min2]

theorem and_bit' {k : IntKind} {w x q r : Nat} (hr : r < w) (hk : w ≤ bitsOf k) : intV .and k ((dg w x q >>> r : Nat) : Int) 1 = .int k (((x.testBit (w * q + r)).toNat : Nat) : Int) := by
  have hw : 0 < w := by omega
  have h := and_bit (k := k) (x := x) (j := w * q + r) hw hk
  rw [Nat.mul_add_div hw, Nat.div_eq_of_lt hr, Nat.add_zero, Nat.mul_add_mod, Nat.mod_eq_of_lt hr] at h
  exact h

/-- A slice, as a pointer to an array. -/
theorem g_arrPtr {arr _elem : TypeId} {x : Operand} {a : Option Addr} {n len cap : Nat} (ho : o.op = .sliceToArrayPointer arr x) (hx : ρ x = .slice a len cap) (hu : ∃ p, P.underlying arr = some (.array n p)) (hl : n ≤ len) : GV P w0 S m o ρ (.pointer a) :=
  g_run fun w => by
    obtain ⟨p, hu⟩ := hu
    have hr : (Instr.arrayAt arr (.slice a len cap)).run P w = .ok (.pointer a) w := by
      have : ¬ len < n := by omega
      simp [Instr.arrayAt, Sem.run_bind, run_underlying hu w, Result.andThen_ok, this]
    simp only [execOp, ho, hx, Sem.run_bind, hr, Result.andThen_ok]; rfl

theorem run_newRow (elem : TypeId) (cells : Array Value) (w : World) : (newRow elem cells).run P w = .ok ⟨w.heap.size, 0, none⟩ (w.alloc (.cells cells elem (0, 0))) := by rfl

/-- A slice whose elements are told. -/
theorem T_buildSlice {t elem : TypeId} {n0 sz : Nat} {parts : Array (Nat × Operand)} {z : Value} (d : Tmp) (hn : A.tmps.size = n) (hM : Mem w0 S w m) (hb : okB n ps = true) (hd : o.dst = some d) (hg : o.guard = none) (ho : o.op = .buildSlice t n0 parts) (hu : P.underlying t = some (.slice elem))
    (hs : ∀ w, (Go.sizeOf elem).run P w = .ok sz w) (hz : ∀ w, (zeroValue elem).run P w = .ok z w) (hsm : n0 * sz ≤ 2 ^ 24) (h0 : n0 * sz ≠ 0) (cs : Array Value)
    (hcs : Instr.fill (fun i => some (i * sz, sz)) ((Array.range (n0 * sz)).map (z.cells[· % z.cells.size]!)) (parts.toList.map fun (i, x) => (i, ev A ps x)) = some cs)
    (h : ∀ b w', Mem w0 S w' (⟨b, cs, elem, true⟩ :: m) → wpList P ops Q rest (putAll A ((d, .slice (some ⟨b, 0, none⟩) n0 n0) :: ps)) w') : wpList P ops Q (o :: rest) (putAll A ps) w := by
  unfold wpList
  rw [if_pos (by simp [Region.wanted, hg])]
  refine .inl ?_
  unfold Oper.wp
  rw [ev_ps hn hb]
  have hpl : (parts.map fun (i, x) => (i, ev A ps x)).toList = parts.toList.map fun (i, x) => (i, ev A ps x) := by rw [Array.toList_map]
  have hr : (Instr.buildSlice t n0 (parts.map fun (i, x) => (i, ev A ps x))).run P w = .ok (.slice (some ⟨w.heap.size, 0, none⟩) n0 n0) (w.alloc (.cells cs elem (0, 0))) := by
    have h1 : ¬ n0 * sz > 2 ^ 24 := by omega
    simp only [Instr.buildSlice, Sem.run_bind, run_underlying hu w, hs w, Result.andThen_ok, if_neg h1, if_neg h0, hz w, Sem.run_pure, hpl, hcs, run_newRow]
  have hrun : (execOp (ev A ps) o).run P w = .ok (.value (.slice (some ⟨w.heap.size, 0, none⟩) n0 n0)) (w.alloc (.cells cs elem (0, 0))) := by
    simp only [execOp, ho, Sem.run_bind, hr, Result.andThen_ok]; rfl
  rw [hrun]
  simp only [Oper.upon, hd]
  exact h _ _ (hM.new _ _)

end
end Go.Mx
