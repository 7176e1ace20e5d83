/- Stepping a function: the lists of operations, the regions, the way in and out. -/
import Derived.Test.YtbonnnakebfniaaDoorSx
namespace Go.Mx
open Go Go.RowKit

section
variable {P : Program} {ops : Array Oper} {Q : Exit → Act → World → Prop} {A : Act} {n : Nat} {rest : List Oper} {o : Oper} {ps : Puts} {w0 w : World} {S : List Nat} {m : List Cl}

theorem ev_ps (hn : A.tmps.size = n) (hb : okB n ps = true) : (putAll A ps).eval = ev A ps := ev_putAll A ps (okB_mem hn hb)

/-- A value at once. -/
theorem T_val {v : Value} (d : Tmp) (hn : A.tmps.size = n) (hM : Mem w0 S w m) (hb : okB n ps = true) (hd : o.dst = some d) (hw : wantedE ops A ps o = true) (hg : GV P w0 S m o (ev A ps) v)
    (h : wpList P ops Q rest (putAll A ((d, v) :: ps)) w) : wpList P ops Q (o :: rest) (putAll A ps) w := by
  unfold wpList
  rw [if_pos (wanted_of_E (okB_mem hn hb) hw)]
  refine .inl ?_
  unfold Oper.wp
  rw [ev_ps hn hb, hg w hM]
  simp only [Oper.upon, hd]
  exact h

theorem T_unwanted (d j : Nat) (want b : Bool) (t : Tmp) (hn : A.tmps.size = n) (hb : okB n ps = true) (hd : o.dst = some d) (hg : o.guard = some (j, want)) (hj : dstOf ops j = some t) (hl : look A ps t = .bool b) (hne : b ≠ want)
    (h : wpList P ops Q rest (putAll A ((d, undef) :: ps)) w) : wpList P ops Q (o :: rest) (putAll A ps) w := by
  unfold wpList
  rw [if_neg (by rw [unwanted_of_E (okB_mem hn hb) hg hj hl hne]; exact Bool.false_ne_true), hd]
  exact h

/-- A call by its contract. -/
theorem T_call {v : Value} (d : Tmp) (hn : A.tmps.size = n) (hM : Mem w0 S w m) (hb : okB n ps = true) (hd : o.dst = some d) (hw : wantedE ops A ps o = true) (hg : GE P w0 S m o (ev A ps) v)
    (h : ∀ w', Mem w0 S w' m → wpList P ops Q rest (putAll A ((d, v) :: ps)) w') : wpList P ops Q (o :: rest) (putAll A ps) w := by
  unfold wpList
  rw [if_pos (wanted_of_E (okB_mem hn hb) hw)]
  refine .inl (wp_of_gives (v := v) (by rw [ev_ps hn hb]; exact hg w hM) fun w' hb' => ?_)
  rw [hd]
  exact h w' (hM.low hb')

/-- A call that writes blocks, by its contract. -/
theorem T_callW {f : FuncId} {fn : Func} {as : Array Operand} {ts : Array TypeId} {vs : Array Value} {v : Value} {m' : List Cl} (d : Tmp) (hn : A.tmps.size = n) (_hM : Mem w0 S w m) (hb : okB n ps = true) (hd : o.dst = some d) (hw : wantedE ops A ps o = true)
    (ho : o.op = .call { callee := .value (.func f), args := as, argTypes := ts }) (ha' : as.toList.map (ev A ps) = vs.toList) (hfn : P.funcs[f]? = some fn) (hng : (fn.name == "runtime.NumGoroutine") = false) (hbn : fn.body.isNone = false)
    (hc : Calls P f vs w fun e w' => e = .returned v ∧ Mem w0 S w' m')
    (h : ∀ w', Mem w0 S w' m' → wpList P ops Q rest (putAll A ((d, v) :: ps)) w') : wpList P ops Q (o :: rest) (putAll A ps) w := by
  have ha : as.map (ev A ps) = vs := by rw [← Array.toList_inj, Array.toList_map]; exact ha'
  have hne : ¬ fn.name = "runtime.NumGoroutine" := by simpa using hng
  have hbn' : ¬ fn.body = none := fun h => by rw [h] at hbn; cases hbn
  unfold wpList
  rw [if_pos (wanted_of_E (okB_mem hn hb) hw)]
  refine .inl ?_
  unfold Oper.wp
  rw [ev_ps hn hb]
  have hrun : (execOp (ev A ps) o).run P w = .ok (.enter f vs) w := by
    have hf : ev A ps (.func f) = .func (.func f) #[] #[] := rfl
    simp [execOp, ho, resolve, hf, ha, Deferred.ofValue, invoke, callFunc, hfn, hne, hbn', Sem.run_bind, Result.andThen]
  rw [hrun]
  simp only [Oper.upon]
  refine hc.mono ?_
  rintro e w' ⟨rfl, hM'⟩
  rw [hd]
  exact h w' hM'

theorem T_box {T : TypeId} {x : Operand} {v : Value} (d : Tmp) (hn : A.tmps.size = n) (hM : Mem w0 S w m) (hb : okB n ps = true) (hd : o.dst = some d) (hg : o.guard = none) (ho : o.op = .box T x) (hx : ev A ps x = v) (cs : Array Value) (hcs : v.cells = cs)
    (h : ∀ b w', Mem w0 S w' (⟨b, cs, T, true⟩ :: m) → wpList P ops Q rest (putAll A ((d, .pointer (some ⟨b, 0, none⟩)) :: ps)) w') : wpList P ops Q (o :: rest) (putAll A ps) w := by
  unfold wpList
  rw [if_pos (by simp [Region.wanted, hg])]
  refine .inl ?_
  unfold Oper.wp
  rw [ev_ps hn hb]
  have hrun : (execOp (ev A ps) o).run P w = .ok (.value (.pointer (some ⟨w.heap.size, 0, none⟩))) (w.alloc (.cells cs T (0, 0))) := by
    simp only [execOp, ho, hx, ← hcs]; rfl
  rw [hrun]
  simp only [Oper.upon, hd]
  exact h _ _ (hM.new _ _)

theorem T_alloc {T : TypeId} {z : Value} (d : Tmp) (hn : A.tmps.size = n) (hM : Mem w0 S w m) (hb : okB n ps = true) (hd : o.dst = some d) (hg : o.guard = none) (ho : o.op = .alloc T) (hz : ∀ w, (zeroValue T).run P w = .ok z w) (cs : Array Value) (hcs : z.cells = cs)
    (h : ∀ b w', Mem w0 S w' (⟨b, cs, T, true⟩ :: m) → wpList P ops Q rest (putAll A ((d, .pointer (some ⟨b, 0, none⟩)) :: ps)) w') : wpList P ops Q (o :: rest) (putAll A ps) w := by
  unfold wpList
  rw [if_pos (by simp [Region.wanted, hg])]
  refine .inl ?_
  unfold Oper.wp
  rw [ev_ps hn hb]
  have hrun : (execOp (ev A ps) o).run P w = .ok (.value (.pointer (some ⟨w.heap.size, 0, none⟩))) (w.alloc (.cells cs T (0, 0))) := by
    simp only [execOp, ho, Instr.alloc, Sem.run_bind, hz w, Result.andThen_ok, ← hcs]; rfl
  rw [hrun]
  simp only [Oper.upon, hd]
  exact h _ _ (hM.new _ _)

/-- Cells, in their order, laid over others from an offset on. -/
def splice (c : Array Value) : Nat → List Value → Array Value
  | _, [] => c
  | i, v :: r => splice (c.setIfInBounds i v) (i + 1) r

theorem setCell_eq {w : World} {b off : Nat} {c : Array Value} {T : TypeId} {fr : Nat × Nat} (v : Value) (h : w.heap[b]? = some (.cells c T fr)) :
    w.setCell ⟨b, off, none⟩ v = { w with heap := w.heap.setIfInBounds b (.cells (c.setIfInBounds off v) T fr) } := by
  simp only [World.setCell]
  congr 1
  refine Array.ext_getElem? fun i => ?_
  rw [Array.getElem?_modify, Array.getElem?_setIfInBounds]
  by_cases hi : b = i
  · subst hi
    have hlt : b < w.heap.size := (Array.getElem?_eq_some_iff.1 h).1
    rw [if_pos rfl, if_pos rfl, if_pos hlt, h]
    simp
  · rw [if_neg hi, if_neg hi]

theorem set_self {w : World} {b : Nat} {x : Obj} (h : w.heap[b]? = some x) : w.heap.setIfInBounds b x = w.heap := by
  refine Array.ext_getElem? fun i => ?_
  rw [Array.getElem?_setIfInBounds]
  by_cases hi : b = i
  · subst hi
    rw [if_pos rfl, if_pos (Array.getElem?_eq_some_iff.1 h).1, h]
  · rw [if_neg hi]

theorem set_set (l : Array Obj) (b : Nat) (x y : Obj) : (l.setIfInBounds b x).setIfInBounds b y = l.setIfInBounds b y := by
  refine Array.ext_getElem? fun i => ?_
  simp only [Array.getElem?_setIfInBounds, Array.size_setIfInBounds]
  by_cases hi : b = i
  · simp only [if_pos hi]
  · simp only [if_neg hi]

theorem setCells_eq (b : Nat) (T : TypeId) (fr : Nat × Nat) : ∀ (vs : List Value) (off : Nat) (w : World) (c : Array Value), w.heap[b]? = some (.cells c T fr) →
    w.setCells b off vs = { w with heap := w.heap.setIfInBounds b (.cells (splice c off vs) T fr) }
  | [], _, w, c, h => by
    show w = _
    simp only [splice, set_self h]
  | v :: r, off, w, c, h => by
    have hlt : b < w.heap.size := (Array.getElem?_eq_some_iff.1 h).1
    rw [World.setCells, setCell_eq v h, setCells_eq b T fr r (off + 1) _ (c.setIfInBounds off v) (by
      show (w.heap.setIfInBounds b _)[b]? = _
      rw [Array.getElem?_setIfInBounds_self_of_lt hlt])]
    simp only [splice, set_set]

/-- What a store does: one cell, or a struct or an array. -/
def SetsTo (P : Program) (ty : TypeId) (v : Value) (c : Array Value) (off : Nat) (c' : Array Value) : Prop :=
  ∀ (w : World) (b : Nat) (T : TypeId), w.heap[b]? = some (.cells c T (0, 0)) → (Instr.storeAt ty (.pointer (some ⟨b, off, none⟩)) v).run P w = .ok () { w with heap := w.heap.setIfInBounds b (.cells c' T (0, 0)) }

theorem splice_eq : ∀ (cs : List Value) (c : Array Value) (off : Nat), off + cs.length ≤ c.size → (splice c off cs).toList = c.toList.take off ++ cs ++ c.toList.drop (off + cs.length)
  | [], c, off, h => by simp [splice]
  | v :: cs, c, off, h => by
    rw [splice, splice_eq cs (c.setIfInBounds off v) (off + 1) (by simp at h ⊢; omega)]
    have hlt : off < c.toList.length := by simp at h ⊢; omega
    rw [Array.toList_setIfInBounds, List.take_set, List.drop_set_of_lt (by omega), List.take_succ_eq_append_getElem hlt]
    simp only [List.length_cons]
    rw [List.set_append_right _ _ (by simp; omega), List.length_take, Nat.min_eq_left (Nat.le_of_lt hlt), Nat.sub_self]
    simp [Nat.add_assoc, Nat.add_comm 1]

theorem sets_row {ty : TypeId} {cs c c' : Array Value} {off : Nat} (hs : (P.info? ty).map (·.size) = some cs.size) (h1' : cs.toList.all (·.oneCell') = true) (hoff : Nat.ble (off + cs.toList.length) c.toList.length = true) (hc' : c.toList.take off ++ cs.toList ++ c.toList.drop (off + cs.toList.length) = c'.toList) : SetsTo P ty (.agg cs) c off c' := by
  intro w b T hh
  have hoff' : off + cs.size ≤ c.size := by simpa using hoff
  have h1 : cs.all (·.oneCell') = true := by rw [← Array.all_toList]; exact h1'
  have hc : splice c off cs.toList = c' := by rw [← Array.toList_inj, splice_eq _ _ _ (by simpa using hoff'), hc']
  have hthere : w.there b off cs.size := by
    intro j hj
    have hlt : off + j < c.size := by omega
    refine ⟨?_, ?_⟩
    · unfold World.cell?; simp [hh, hlt]
    · unfold World.frozen?; simp [hh]
  rw [← hc, ← setCells_eq b T (0, 0) cs.toList off w c hh]
  simp only [Instr.storeAt, Instr.sureAddr, Sem.run_bind, Sem.run_pure, Result.andThen_ok, run_storeVar_mid w b off ty cs hthere hs h1]

theorem sets_one {ty : TypeId} {v : Value} {c c' : Array Value} {off : Nat} (h1 : v.oneCell' = true) (hs : (P.info? ty).map (·.size) = some 1) (hoff : Nat.blt off c.toList.length = true) (hc' : c.toList.set off v = c'.toList) : SetsTo P ty v c off c' := by
  intro w b T hh
  have hc : c.setIfInBounds off v = c' := by rw [← Array.toList_inj, Array.toList_setIfInBounds]; exact hc'
  have hoff' : off < c.size := by simpa using hoff
  have hcell : w.cell? ⟨b, off, none⟩ = some c[off] := by
    unfold World.cell?; simp [hh, hoff']
  have hfr : w.frozen? ⟨b, off, none⟩ = false := by
    unfold World.frozen?; simp [hh]
  rw [← hc, ← setCell_eq v hh]
  obtain ⟨inf, hinf⟩ : ∃ inf, P.info? ty = some inf := by cases hq : P.info? ty with
    | none => simp [hq] at hs
    | some inf => exact ⟨inf, rfl⟩
  have hsz : inf.size = 1 := by simpa [hinf] using hs
  have hst : (store ⟨b, off, none⟩ v).run P w = .ok () (w.setCell ⟨b, off, none⟩ v) := by
    unfold store
    cases v <;> first | (simp [Value.oneCell'] at h1; done) | simp [Sem.run, hcell, hfr]
  have hvc : v.cells = #[v] := by cases v <;> first | (simp [Value.oneCell'] at h1; done) | rfl
  simp [Instr.storeAt, Instr.sureAddr, storeVar, sizeOf, typeInfo, hinf, hsz, hvc, storeCells, Sem.run_bind, Addr.add, hst, Result.andThen]

theorem run_store {ty : TypeId} {x y : Operand} {b off : Nat} {c c' : Array Value} {T : TypeId} {v : Value} {ρ : Operand → Value} (ho : o.op = .store ty x y) (hx : ρ x = .pointer (some ⟨b, off, none⟩)) (hy : ρ y = v) (hs : SetsTo P ty v c off c') (hh : w.heap[b]? = some (.cells c T (0, 0))) :
    (execOp ρ o).run P w = .ok .skip { w with heap := w.heap.setIfInBounds b (.cells c' T (0, 0)) } := by
  simp only [execOp, ho, hx, hy, Sem.run_bind, hs w b T hh, Result.andThen_ok]; rfl

/-- A store into block j of the list. -/
theorem T_store {ty : TypeId} {x y : Operand} {b off : Nat} {c c' : Array Value} {T : TypeId} {v : Value} (j : Nat) (hn : A.tmps.size = n) (hM : Mem w0 S w m) (hb : okB n ps = true) (hg : o.guard = none) (hd : o.dst = none) (ho : o.op = .store ty x y) (hx : ev A ps x = .pointer (some ⟨b, off, none⟩)) (hy : ev A ps y = v)
    (hj : m[j]? = some ⟨b, c, T, true⟩) (hs : SetsTo P ty v c off c')
    (h : ∀ w', Mem w0 S w' (m.set j ⟨b, c', T, true⟩) → wpList P ops Q rest (putAll A ps) w') : wpList P ops Q (o :: rest) (putAll A ps) w := by
  unfold wpList
  rw [if_pos (by simp [Region.wanted, hg])]
  refine .inl ?_
  unfold Oper.wp
  rw [ev_ps hn hb, run_store ho hx hy hs (hM.get j hj)]
  simp only [Oper.upon, hd, Act.put]
  exact h _ (hM.put j hj rfl c')

theorem T_nil {K : Act → World → Prop} (h : K A w) : wpList P ops (Exit.then K Q) [] A w := h
theorem T_end (h : Q .normal A w) : wpList P ops Q [] A w := h

/-! ### Ways on -/
theorem x_then {K : Act → World → Prop} {e : Exit} (hne : e ≠ .normal) (h : Q e A w) : Exit.then K Q e A w := by cases e <;> first | exact absurd rfl hne | exact h
theorem x_in {id : Nat} (h : Q .normal A w) : Exit.inBlock id Q (.exit id) A w := by simpa [Exit.inBlock] using h
theorem x_pass {id k : Nat} (hne : k ≠ id) (h : Q (.exit k) A w) : Exit.inBlock id Q (.exit k) A w := by simpa [Exit.inBlock, hne] using h
theorem x_norm {id : Nat} (h : Q .normal A w) : Exit.inBlock id Q .normal A w := h
theorem x_ret {id : Nat} (h : Q .ret A w) : Exit.inBlock id Q .ret A w := h
theorem x_next {K : Act → World → Prop} (h : K A w) : Exit.then K Q .normal A w := h

theorem C_cond {c : Operand} {x y : Code} (b : Bool) (hn : A.tmps.size = n) (hb : okB n ps = true) (hc : ev A ps c = .bool b) (h : (if b then x else y).wp P Q (putAll A ps) w) : (Code.cond c x y).wp P Q (putAll A ps) w :=
  wp_cond (t := b) (by rw [ev_ps hn hb]; exact hc) h

theorem C_condT {c : Operand} {x y : Code} (hn : A.tmps.size = n) (hb : okB n ps = true) (hc : ev A ps c = .bool true) (h : x.wp P Q (putAll A ps) w) : (Code.cond c x y).wp P Q (putAll A ps) w := C_cond true hn hb hc h
theorem C_condF {c : Operand} {x y : Code} (hn : A.tmps.size = n) (hb : okB n ps = true) (hc : ev A ps c = .bool false) (h : y.wp P Q (putAll A ps) w) : (Code.cond c x y).wp P Q (putAll A ps) w := C_cond false hn hb hc h

/-- A loop of a number of rounds: before round k its relation I k; behind the last test it is left. -/
theorem C_loop {c : Code} (I : Nat → Act → World → Prop) (N : Nat) (h0 : I 0 A w) (step : ∀ k, k < N → ∀ a w, I k a w → c.wp P (Exit.then (fun a' w' => I (k + 1) a' w') Q) a w)
    (last : ∀ a w, I N a w → c.wp P (Exit.then (fun _ _ => False) Q) a w) : (Code.loop c).wp P Q A w := by
  refine wp_loop_rounds (N + 1) ?_
  have key : ∀ j k a w, k + j = N → I k a w → Code.rounds P c Q (j + 1) a w := by
    intro j
    induction j with
    | zero =>
      intro k a w hk hI
      rw [rounds_succ]
      obtain rfl : k = N := by simpa using hk
      exact wp_mono (last a w hI) fun e a w h => by cases e <;> first | exact h | exact h.elim
    | succ j ih =>
      intro k a w hk hI
      rw [rounds_succ]
      refine wp_mono (step k (by omega) a w hI) fun e a' w' h => ?_
      cases e with
      | normal => exact ih (k + 1) a' w' (by omega) h
      | _ => exact h
  exact key N 0 A w (Nat.zero_add N) h0

/-! ### The way in -/
def argPuts : Nat → List Value → Puts
  | _, [] => []
  | k, v :: l => (k, v) :: argPuts (k + 1) l

theorem argPuts_mem : ∀ (l : List Value) (k : Nat) (p : Tmp × Value), p ∈ argPuts k l → ∃ j, p.1 = k + j ∧ l[j]? = some p.2
  | [], _, _, h => by cases h
  | v :: l, k, p, h => by
    rcases List.mem_cons.1 h with rfl | h
    · exact ⟨0, rfl, rfl⟩
    · obtain ⟨j, h1, h2⟩ := argPuts_mem l (k + 1) p h
      exact ⟨j + 1, h1.trans (show k + 1 + j = k + (j + 1) by rw [Nat.add_assoc, Nat.add_comm 1 j]), by simpa using h2⟩

theorem enter {f : FuncId} {fn : Func} {c : Code} {args : Array Value} {R : Ending → World → Prop} (hf : P.funcs[f]? = some fn) (hb : fn.body = some c) (hn : fn.ntmps = n) (hsz : args.size ≤ n)
    (h : ∀ A : Act, A.tmps.size = n → A.defers = [] → c.wp P (bodyPost P fn R) (putAll A (argPuts 0 args.toList)) w) : Calls P f args w R := by
  refine calls_of_wp hf hb ?_
  have hs : (args ++ Array.replicate (fn.ntmps - args.size) undef).size = n := by rw [Array.size_append, Array.size_replicate, hn]; omega
  have := h { tmps := args ++ Array.replicate (fn.ntmps - args.size) undef, defers := [] } hs rfl
  rwa [putAll_self] at this
  intro p hp
  obtain ⟨j, h1, h2⟩ := argPuts_mem _ _ _ hp
  have hj : j < args.size := by
    have := (List.getElem?_eq_some_iff.1 h2).1
    simpa using this
  refine ⟨?_, by show p.1 < (args ++ Array.replicate (fn.ntmps - args.size) undef).size; rw [hs, h1, Nat.zero_add]; exact Nat.lt_of_lt_of_le hj hsz⟩
  rw [h1, Nat.zero_add]
  simp only [Array.getD_eq_getD_getElem?]
  rw [Array.getElem?_append_left hj]
  have h3 : args[j]? = some p.2 := by simpa using h2
  rw [h3]; rfl

/-! ### The way out -/
inductive ResV (P : Program) (m : List Cl) (A : Act) (ps : Puts) : List ResultVar → List Value → Prop
  | nil : ResV P m A ps [] []
  | tmp {l : List ResultVar} {vs : List Value} {v : Value} (t : Tmp) (h : look A ps t = v) (r : ResV P m A ps l vs) : ResV P m A ps (.tmp t :: l) (v :: vs)
  | row {l : List ResultVar} {vs : List Value} {t : Tmp} {ty : TypeId} {b : Nat} {c : Array Value} {T : TypeId} {rw : Bool} {d : TypeDesc} (i : Nat) (h : look A ps t = .pointer (some ⟨b, 0, none⟩)) (hi : m[i]? = some ⟨b, c, T, rw⟩) (hu : P.underlying ty = some d) (hd : d.isRow = true)
      (hs : (P.info? ty).map (·.size) = some c.toList.length) (r : ResV P m A ps l vs) : ResV P m A ps (.cell t ty :: l) (.agg c :: vs)

def tup (vs : List Value) : Value := match vs with | [v] => v | vs => .tuple vs.toArray

theorem run_resV (hn : A.tmps.size = n) (hM : Mem w0 S w m) (hb : okB n ps = true) {l : List ResultVar} {vs : List Value} (h : ResV P m A ps l vs) :
    (l.mapM fun x => (match x with
        | ResultVar.tmp t => pure ((putAll A ps).tmps.getD t undef)
        | ResultVar.cell a t => do let x ← asAddr ((putAll A ps).tmps.getD a undef); loadVar t x : Sem Value)).run P w = .ok vs w := by
  induction h with
  | nil => simp
  | tmp t h r ih =>
    simp only [List.mapM_cons, Sem.run_bind, Sem.run_pure, Result.andThen_ok, ih]
    rw [look_putAll A ps t (okB_mem hn hb), h]
  | @row l vs t ty b c T rw_ d i h hi hu hd hs r ih =>
    have h1 : (putAll A ps).tmps.getD t undef = .pointer (some ⟨b, 0, none⟩) := by rw [look_putAll A ps t (okB_mem hn hb), h]
    have h2 := run_loadVar_mid (P := P) w b 0 ty c.toList d (rangeAt_of_heap (hM.get i hi) (by rw [List.drop_zero, List.take_length])) hu hd hs
    have h3 : (asAddr (.pointer (some ⟨b, 0, none⟩))).run P w = .ok ⟨b, 0, none⟩ w := rfl
    simp only [List.mapM_cons, Sem.run_bind, Sem.run_pure, Result.andThen_ok, h1, h3, h2, ih]

theorem leave {fn : Func} {R : Ending → World → Prop} {rs : Array ResultVar} {vs : List Value} {e : Exit} (he : e = .ret ∨ e = .normal) (hn : A.tmps.size = n) (hdf : A.defers = []) (hM : Mem w0 S w m) (hb : okB n ps = true) (hr : fn.results = rs) (h : ResV P m A ps rs.toList vs) (hR : R (.returned (tup vs)) w) :
    bodyPost P fn R e (putAll A ps) w := by
  have key : (putAll A ps).defers = [] ∧ ∃ v, (results fn (putAll A ps).tmps).run P w = .ok v w ∧ R (.returned v) w := by
    refine ⟨(putAll_defers A ps).trans hdf, tup vs, ?_, hR⟩
    have h1 := run_resV hn hM hb h
    unfold results
    rw [hr, Array.mapM_eq_mapM_toList]
    have h2 : ((List.toArray <$> rs.toList.mapM fun x => (match x with
        | ResultVar.tmp t => pure ((putAll A ps).tmps.getD t undef)
        | ResultVar.cell a t => do let x ← asAddr ((putAll A ps).tmps.getD a undef); loadVar t x : Sem Value))).run P w = .ok vs.toArray w := by
      rw [map_eq_pure_bind, Sem.run_bind, h1]; rfl
    rw [Sem.run_bind]
    refine (congrArg (fun r => Result.andThen r _) h2).trans ?_
    unfold tup
    rcases vs with _ | ⟨v, _ | ⟨v', vs⟩⟩ <;> rfl
  rcases he with rfl | rfl <;> exact key

end
end Go.Mx
