/- Stepping a function: made slices; calls that hand back something of a new block. -/
import Derived.Test.YtbonnnakebfniaaDoorSc
import Derived.Laws.MakeOwn
namespace Go.Mx
open Go Go.RowKit
section
variable {P : Program} {ops : Array Oper} {Q : Exit → Act → World → Prop} {A : Act} {n : Nat} {rest : List Oper} {o : Oper} {ps : Puts} {w0 w : World} {S : List Nat} {m : List Cl} {ρ : Operand → Value}

theorem T_makeSlice {t elem : TypeId} {i : TypeInfo} {z : Value} {x y : Operand} {k : IntKind} {c : Nat} (d : Tmp) (hn : A.tmps.size = n) (hM : Mem w0 S w m) (hb : okB n ps = true) (hd : o.dst = some d) (hg : o.guard = none) (ho : o.op = .makeSlice t x y) (hx : ev A ps x = .int k (c : Int)) (hy : ev A ps y = .int k (c : Int))
    (hu : P.underlying t = some (.slice elem)) (hi : P.info? elem = some i) (hz : i.zero = some z) (hbt : i.bytes * c ≤ 281474976710656) (hc : c ≤ 9223372036854775807) (cs : Array Value) (hcs : madeCells z.cells (c * i.size) = cs)
    (h : ∀ b w', Mem w0 S w' (⟨b, cs, elem, true⟩ :: m) → wpList P ops Q rest (putAll A ((d, .slice (some ⟨b, 0, none⟩) c c) :: ps)) w') : wpList P ops Q (o :: rest) (putAll A ps) w := by
  unfold wpList
  rw [if_pos (by simp [Region.wanted, hg])]
  refine .inl ?_
  unfold Oper.wp
  rw [ev_ps hn hb]
  have hr := run_make (P := P) w t elem i z hu hi hz k k (c : Int) (c : Int) (by omega) (by omega) (by rw [← Int.natCast_mul]; exact Int.ofNat_le.2 hbt) (by omega)
  rw [Int.toNat_natCast, hcs] at hr
  have hrun : (execOp (ev A ps) o).run P w = .ok (.value (.slice (some ⟨w.heap.size, 0, none⟩) c c)) (w.alloc (.cells cs elem (0, 0))) := by
    simp only [execOp, ho, hx, hy, Sem.run_bind, hr, Result.andThen_ok]; rfl
  rw [hrun]
  simp only [Oper.upon, hd]
  exact h _ _ (hM.new _ _)

theorem madeB (n : Nat) : madeCells (Value.bool false).cells n = arrB n fun _ => false := by
  unfold madeCells arrB
  rw [← Array.toList_inj]
  simp only [Array.toList_map, Array.toList_range]
  refine List.map_congr_left fun i _ => ?_
  simp [Value.cells, Nat.mod_one]

/-- A call that hands back something of a new block. -/
theorem T_callV {f : FuncId} {fn : Func} {as : Array Operand} {ts : Array TypeId} {vs : Array Value} {cs : Array Value} {T : TypeId} (vf : Nat → Value) (d : Tmp) (hn : A.tmps.size = n) (hM : Mem w0 S w m) (hb : okB n ps = true) (hd : o.dst = some d) (hw : wantedE ops A ps o = true)
    (ho : o.op = .call { callee := .value (.func f), args := as, argTypes := ts }) (ha' : as.toList.map (ev A ps) = vs.toList) (hfn : P.funcs[f]? = some fn) (hng : (fn.name == "runtime.NumGoroutine") = false) (hbn : fn.body.isNone = false)
    (hc : Calls P f vs w fun e w' => ∃ b, e = .returned (vf b) ∧ w.heap.size ≤ b ∧ w'.heap[b]? = some (.cells cs T (0, 0)) ∧ Below w.heap.size w w')
    (h : ∀ b w', Mem w0 S w' (⟨b, cs, T, true⟩ :: m) → wpList P ops Q rest (putAll A ((d, vf b) :: ps)) w') : wpList P ops Q (o :: rest) (putAll A ps) w := by
  have ha : as.map (ev A ps) = vs := by rw [← Array.toList_inj, Array.toList_map]; exact ha'
  have hne : ¬ fn.name = "runtime.NumGoroutine" := by simpa using hng
  have hbn' : ¬ fn.body = none := fun h => by rw [h] at hbn; cases hbn
  unfold wpList
  rw [if_pos (wanted_of_E (okB_mem hn hb) hw)]
  refine .inl ?_
  unfold Oper.wp
  rw [ev_ps hn hb]
  have hrun : (execOp (ev A ps) o).run P w = .ok (.enter f vs) w := by
    have hf : ev A ps (.func f) = .func (.func f) #[] #[] := rfl
    simp [execOp, ho, resolve, hf, ha, Deferred.ofValue, invoke, callFunc, hfn, hne, hbn', Sem.run_bind, Result.andThen]
  rw [hrun]
  simp only [Oper.upon]
  refine hc.mono ?_
  rintro e w' ⟨b, rfl, hge, hh, hb'⟩
  rw [hd]
  refine h b w' ((hM.low hb').add hh (Nat.le_trans hM.size hge) fun hm => ?_)
  obtain ⟨x, hx, he⟩ := List.mem_map.1 hm
  have := hM.lt hx
  omega

end
end Go.Mx
