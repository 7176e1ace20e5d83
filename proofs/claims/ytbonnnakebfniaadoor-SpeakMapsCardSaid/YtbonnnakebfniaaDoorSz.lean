/- Stepping a function: a few laws more. -/
import Derived.Test.YtbonnnakebfniaaDoorSr
namespace Go.Mx
open Go Go.RowKit

section
variable {P : Program} {ops : Array Oper} {Q : Exit → Act → World → Prop} {A : Act} {n : Nat} {rest : List Oper} {o : Oper} {ps : Puts} {w0 w : World} {S : List Nat} {m : List Cl} {ρ : Operand → Value}

/-- A call of a named function with a body, whose contract reads known blocks. -/
theorem g_callM {f : FuncId} {fn : Func} {as : Array Operand} {ts : Array TypeId} {vs : Array Value} {v : Value} (hc : ∀ w, Mem w0 S w m → Calls P f vs w fun e w' => e = .returned v ∧ Below w.heap.size w w') (ho : o.op = .call { callee := .value (.func f), args := as, argTypes := ts }) (hf : ρ (.func f) = .func (.func f) #[] #[]) (ha' : as.toList.map ρ = vs.toList)
    (hfn : P.funcs[f]? = some fn) (hng : (fn.name == "runtime.NumGoroutine") = false) (hb : fn.body.isNone = false) : GE P w0 S m o ρ v := by
  intro w hM
  have ha : as.map ρ = vs := by rw [← Array.toList_inj, Array.toList_map]; exact ha'
  have hne : ¬ fn.name = "runtime.NumGoroutine" := by simpa using hng
  have hbn : ¬ fn.body = none := fun h => by rw [h] at hb; cases hb
  have h : (execOp ρ o).run P w = .ok (.enter f vs) w := by
    simp [execOp, ho, resolve, hf, ha, Deferred.ofValue, invoke, callFunc, hfn, hne, hbn, Sem.run_bind, Result.andThen]
  rw [h]
  exact ⟨rfl, hc w hM⟩

/-- A call that hands back a new block. -/
theorem T_callN {f : FuncId} {fn : Func} {as : Array Operand} {ts : Array TypeId} {vs : Array Value} {cs : Array Value} {T : TypeId} (d : Tmp) (hn : A.tmps.size = n) (hM : Mem w0 S w m) (hb : okB n ps = true) (hd : o.dst = some d) (hw : wantedE ops A ps o = true)
    (ho : o.op = .call { callee := .value (.func f), args := as, argTypes := ts }) (ha' : as.toList.map (ev A ps) = vs.toList) (hfn : P.funcs[f]? = some fn) (hng : (fn.name == "runtime.NumGoroutine") = false) (hbn : fn.body.isNone = false)
    (hc : Calls P f vs w fun e w' => ∃ b, e = .returned (.pointer (some ⟨b, 0, none⟩)) ∧ w.heap.size ≤ b ∧ w'.heap[b]? = some (.cells cs T (0, 0)) ∧ Below w.heap.size w w')
    (h : ∀ b w', Mem w0 S w' (⟨b, cs, T, true⟩ :: m) → wpList P ops Q rest (putAll A ((d, .pointer (some ⟨b, 0, none⟩)) :: ps)) w') : wpList P ops Q (o :: rest) (putAll A ps) w := by
  have ha : as.map (ev A ps) = vs := by rw [← Array.toList_inj, Array.toList_map]; exact ha'
  have hne : ¬ fn.name = "runtime.NumGoroutine" := by simpa using hng
  have hbn' : ¬ fn.body = none := fun h => by rw [h] at hbn; cases hbn
  unfold wpList
  rw [if_pos (wanted_of_E (okB_mem hn hb) hw)]
  refine .inl ?_
  unfold Oper.wp
  rw [ev_ps hn hb]
  have hrun : (execOp (ev A ps) o).run P w = .ok (.enter f vs) w := by
    have hf : ev A ps (.func f) = .func (.func f) #[] #[] := rfl
    simp [execOp, ho, resolve, hf, ha, Deferred.ofValue, invoke, callFunc, hfn, hne, hbn', Sem.run_bind, Result.andThen]
  rw [hrun]
  simp only [Oper.upon]
  refine hc.mono ?_
  rintro e w' ⟨b, rfl, hge, hh, hb'⟩
  rw [hd]
  refine h b w' ((hM.low hb').add hh (Nat.le_trans hM.size hge) fun hm => ?_)
  obtain ⟨x, hx, he⟩ := List.mem_map.1 hm
  have := hM.lt hx
  omega

/-- The end of a call that hands back a new block. -/
theorem Mem.fresh (h : Mem w0 [] w m) (i : Nat) {b : Nat} {c : Array Value} {T : TypeId} (hi : m[i]? = some ⟨b, c, T, true⟩) : w0.heap.size ≤ b ∧ w.heap[b]? = some (.cells c T (0, 0)) ∧ Below w0.heap.size w0 w :=
  ⟨by rcases h.own _ (List.mem_of_getElem? hi) rfl with h1 | h1
      · cases h1
      · exact h1, h.get i hi, h.done⟩

/-- The way in: blocks that may only be read. -/
theorem Mem.read1 (w : World) {b : Nat} {c : Array Value} {T : TypeId} (h : w.heap[b]? = some (.cells c T (0, 0))) : Mem w [] w [⟨b, c, T, false⟩] :=
  (Mem.start w).take h (fun h => (by cases h)) (by simp)

/-- The way in: blocks that may be written. -/
theorem Mem.startS (w : World) (S : List Nat) : Mem w S w [] := ⟨fun _ h => (by cases h), .nil, fun _ h => (by cases h), fun _ _ _ => rfl, Nat.le_refl _, rfl, rfl, rfl⟩
theorem Mem.write1 (w : World) {b : Nat} {c : Array Value} {T : TypeId} (h : w.heap[b]? = some (.cells c T (0, 0))) : Mem w [b] w [⟨b, c, T, true⟩] :=
  (Mem.startS w [b]).take h (fun _ => .inl (by simp)) (by simp)
theorem Mem.write2 (w : World) {a b : Nat} {c d : Array Value} {T U : TypeId} (h : w.heap[a]? = some (.cells c T (0, 0))) (k : w.heap[b]? = some (.cells d U (0, 0))) (hne : a ≠ b) : Mem w [a, b] w [⟨a, c, T, true⟩, ⟨b, d, U, true⟩] :=
  ((Mem.startS w [a, b]).take k (fun _ => .inl (by simp)) (by simp)).take h (fun _ => .inl (by simp)) (by simpa using hne)

theorem x_thenE {K : Act → World → Prop} {k : Nat} (h : Q (.exit k) A w) : Exit.then K Q (.exit k) A w := h
theorem x_thenR {K : Act → World → Prop} (h : Q .ret A w) : Exit.then K Q .ret A w := h

end
end Go.Mx
