/- The values of a region's operations, each by a law: what each operation gives in every world that agrees below. -/
import Derived.Test.YtbonnnakebfniaaDoorMix
import Derived.Deep.MidRow
import Derived.KernelRfl
namespace Go.Mix
open Go Go.RowKit

/-- The slots that the region has written so far, by their numbers. -/
abbrev Puts := List (Tmp × Value)

def look (a0 : Act) : Puts → Tmp → Value
  | [], t => a0.tmps.getD t undef
  | (d, v) :: ps, t => if d = t then v else look a0 ps t

def ev (a0 : Act) (ps : Puts) : Operand → Value
  | .tmp t => look a0 ps t
  | .const v => v
  | .global g => .pointer (some ⟨g, 0, none⟩)
  | .func f => .func (.func f) #[] #[]

def putAll (a0 : Act) : Puts → Act
  | [] => a0
  | (d, v) :: ps => (putAll a0 ps).put (some d) v

theorem putAll_size (a0 : Act) : ∀ ps : Puts, (putAll a0 ps).tmps.size = a0.tmps.size
  | [] => rfl
  | (d, v) :: ps => by rw [putAll, put_size, putAll_size a0 ps]

theorem look_putAll (a0 : Act) : ∀ (ps : Puts) (t : Tmp), (∀ p ∈ ps, p.1 < a0.tmps.size) → (putAll a0 ps).tmps.getD t undef = look a0 ps t
  | [], _, _ => rfl
  | (d, v) :: ps, t, h => by
    have hd := h (d, v) (by simp)
    rw [putAll, getD_put _ _ _ _ (fun x hx => by rw [putAll_size]; cases hx; exact hd), look, look_putAll a0 ps t fun p hp => h p (List.mem_cons_of_mem _ hp)]
    simp only [Option.some.injEq]

theorem ev_putAll (a0 : Act) (ps : Puts) (h : ∀ p ∈ ps, p.1 < a0.tmps.size) : (putAll a0 ps).eval = ev a0 ps := by
  funext x
  cases x with
  | tmp t => exact look_putAll a0 ps t h
  | _ => rfl

def GivesE (P : Program) (w0 : World) (o : Oper) (ρ : Operand → Value) (v : Value) : Prop :=
  ∀ w, Below w0.heap.size w0 w → gUpon P w v ((execOp ρ o).run P w)

/-- A value at once: no call. -/
def GivesV (P : Program) (w0 : World) (o : Oper) (ρ : Operand → Value) (v : Value) : Prop :=
  ∀ w, Below w0.heap.size w0 w → (execOp ρ o).run P w = .ok (.value v) w

theorem GivesV.E {P : Program} {w0 : World} {o : Oper} {ρ : Operand → Value} {v : Value} (h : GivesV P w0 o ρ v) : GivesE P w0 o ρ v := fun w hb => by rw [h w hb]; exact ⟨rfl, rfl⟩

def wantedE (ops : Array Oper) (a0 : Act) (ps : Puts) (o : Oper) : Bool :=
  match o.guard with
  | none => true
  | some (j, want) => match dstOf ops j with
    | some t => match look a0 ps t with
      | .bool b => b == want
      | _ => false
    | none => false

theorem wanted_of_E {ops : Array Oper} {a0 : Act} {ps : Puts} {o : Oper} (h : ∀ p ∈ ps, p.1 < a0.tmps.size) (hw : wantedE ops a0 ps o = true) : Region.wanted o (yielded ops (putAll a0 ps).tmps) = true := by
  unfold wantedE at hw
  unfold Region.wanted
  cases hg : o.guard with
  | none => rfl
  | some p =>
    obtain ⟨j, want⟩ := p
    rw [hg] at hw
    simp only [] at hw ⊢
    unfold yielded
    change (match dstOf ops j with | some t => (match look a0 ps t with | .bool b => b == want | _ => false) | none => false) = true at hw
    change ((match (dstOf ops j).bind ((putAll a0 ps).tmps[·]?) with | some (.bool b) => some b | _ => none) == some want) = true
    cases hd : dstOf ops j with
    | none => rw [hd] at hw; cases hw
    | some t =>
      rw [hd] at hw
      simp only [Option.bind_some] at hw ⊢
      have hl := look_putAll a0 ps t h
      by_cases hlt : t < (putAll a0 ps).tmps.size
      · have e : (putAll a0 ps).tmps[t] = look a0 ps t := by rw [← hl]; simp [hlt]
        simp only [hlt, getElem?_pos, e]
        cases hv : look a0 ps t <;> rw [hv] at hw <;> simp only [] at hw ⊢ <;> first | cases hw | skip
        rename_i b
        have := eq_of_beq hw
        subst this
        simp
      · have e : (putAll a0 ps).tmps.getD t undef = undef := by simp [hlt]
        rw [← hl, e] at hw
        cases hw

theorem unwanted_of_E {ops : Array Oper} {a0 : Act} {ps : Puts} {o : Oper} {j : Nat} {want b : Bool} {t : Tmp} (h : ∀ p ∈ ps, p.1 < a0.tmps.size) (hg : o.guard = some (j, want)) (hd : dstOf ops j = some t)
    (hb : look a0 ps t = .bool b) (hne : b ≠ want) : Region.wanted o (yielded ops (putAll a0 ps).tmps) = false := by
  unfold Region.wanted
  rw [hg]
  simp only []
  unfold yielded
  change ((match (dstOf ops j).bind ((putAll a0 ps).tmps[·]?) with | some (.bool b) => some b | _ => none) == some want) = false
  rw [hd]
  simp only [Option.bind_some]
  have hl := look_putAll a0 ps t h
  have hlt : t < (putAll a0 ps).tmps.size := by
    refine Classical.byContradiction fun hlt => ?_
    rw [hb] at hl
    simp [hlt, undef] at hl
  have e : (putAll a0 ps).tmps[t] = .bool b := by rw [← hb, ← hl]; simp [hlt]
  simp only [hlt, getElem?_pos, e]
  simpa using hne

/-- The walk over the values, slots by name. 'n': the frame's size. -/
def evB (P : Program) (ops : Array Oper) (w0 : World) (ks : List SK) (n : Nat) (a0 : Act) (K : Puts → Prop) : List Nat → Puts → Prop
  | [], ps => K ps
  | i :: l, ps =>
    if (ks.getD i .alloc).isVal then
      match ops[i]? with
      | none => False
      | some o => ∃ v, ((wantedE ops a0 ps o = true ∧ GivesE P w0 o (ev a0 ps) v) ∨
            (v = undef ∧ ∃ j want b t, o.guard = some (j, want) ∧ dstOf ops j = some t ∧ look a0 ps t = .bool b ∧ b ≠ want)) ∧
          evB P ops w0 ks n a0 K l (match o.dst with | some d => (d, v) :: ps | none => ps)
    else evB P ops w0 ks n a0 K l ps

theorem evA_of_evB {P : Program} {ops : Array Oper} {w0 : World} {ks : List SK} {n n0 : Nat} {a0 : Act} {K : Puts → Prop} {K' : Act → Prop} (F : Facts ops ks n n0) (hn : a0.tmps.size = n) (hK : ∀ ps, (∀ p ∈ ps, p.1 < a0.tmps.size) → K ps → K' (putAll a0 ps)) :
    ∀ (l : List Nat) (ps : Puts), (∀ i ∈ l, i < n0) → (∀ p ∈ ps, p.1 < a0.tmps.size) → evB P ops w0 ks n a0 K l ps → evA P ops w0 ks K' l (putAll a0 ps)
  | [], ps, _, hp, h => hK ps hp h
  | i :: l, ps, hl, hp, h => by
    have hin := hl i (by simp)
    have hl' : ∀ i ∈ l, i < n0 := fun j hj => hl j (List.mem_cons_of_mem _ hj)
    simp only [evB, evA] at h ⊢
    by_cases hk : (ks.getD i .alloc).isVal = true
    · rw [if_pos hk] at h ⊢
      cases ho : ops[i]? with
      | none => simp [ho] at h
      | some o =>
        simp only [ho] at h ⊢
        obtain ⟨v, hc, h⟩ := h
        refine ⟨v, ?_, ?_⟩
        · rcases hc with ⟨hw, hg⟩ | ⟨rfl, j, want, b, t, h1, h2, h3, h4⟩
          · exact .inl ⟨wanted_of_E hp hw, fun w hb => by rw [ev_putAll a0 ps hp]; exact hg w hb⟩
          · exact .inr ⟨unwanted_of_E hp h1 h2 h3 h4, rfl⟩
        · cases hd : o.dst with
          | none =>
            rw [hd] at h
            exact evA_of_evB F hn hK l ps hl' hp h
          | some d =>
            rw [hd] at h
            refine evA_of_evB F hn hK l ((d, v) :: ps) hl' (fun p hpm => ?_) h
            rcases List.mem_cons.1 hpm with rfl | hpm
            · rw [hn]; exact F.dlt i d hin (by rw [dstOf_eq ho]; exact hd)
            · exact hp p hpm
    · rw [if_neg hk] at h ⊢
      exact evA_of_evB F hn hK l ps hl' hp h

section
variable {P : Program} {ops : Array Oper} {w0 : World} {ks : List SK} {n : Nat} {a0 : Act} {K : Puts → Prop}

theorem evB_step {i : Nat} {l : List Nat} {ps : Puts} {o : Oper} {v : Value} (d : Tmp) (hk : (ks.getD i .alloc).isVal = true) (ho : ops[i]? = some o) (hd : o.dst = some d) (hw : wantedE ops a0 ps o = true) (hg : GivesE P w0 o (ev a0 ps) v)
    (h : evB P ops w0 ks n a0 K l ((d, v) :: ps)) : evB P ops w0 ks n a0 K (i :: l) ps := by
  simp only [evB]
  rw [if_pos hk]
  simp only [ho]
  exact ⟨v, .inl ⟨hw, hg⟩, by rw [hd]; exact h⟩

theorem evB_none {i : Nat} {l : List Nat} {ps : Puts} {o : Oper} {v : Value} (hk : (ks.getD i .alloc).isVal = true) (ho : ops[i]? = some o) (hd : o.dst = none) (hw : wantedE ops a0 ps o = true) (hg : GivesE P w0 o (ev a0 ps) v)
    (h : evB P ops w0 ks n a0 K l ps) : evB P ops w0 ks n a0 K (i :: l) ps := by
  simp only [evB]
  rw [if_pos hk]
  simp only [ho]
  exact ⟨v, .inl ⟨hw, hg⟩, by rw [hd]; exact h⟩

theorem evB_stepV {i : Nat} {l : List Nat} {ps : Puts} {o : Oper} {v : Value} (d : Tmp) (hk : (ks.getD i .alloc).isVal = true) (ho : ops[i]? = some o) (hd : o.dst = some d) (hw : wantedE ops a0 ps o = true) (hg : GivesV P w0 o (ev a0 ps) v)
    (h : evB P ops w0 ks n a0 K l ((d, v) :: ps)) : evB P ops w0 ks n a0 K (i :: l) ps := evB_step d hk ho hd hw hg.E h

theorem evB_noneV {i : Nat} {l : List Nat} {ps : Puts} {o : Oper} {v : Value} (hk : (ks.getD i .alloc).isVal = true) (ho : ops[i]? = some o) (hd : o.dst = none) (hw : wantedE ops a0 ps o = true) (hg : GivesV P w0 o (ev a0 ps) v)
    (h : evB P ops w0 ks n a0 K l ps) : evB P ops w0 ks n a0 K (i :: l) ps := evB_none hk ho hd hw hg.E h

theorem evB_unwanted {i : Nat} {l : List Nat} {ps : Puts} {o : Oper} (d j : Nat) (want b : Bool) (t : Tmp) (hk : (ks.getD i .alloc).isVal = true) (ho : ops[i]? = some o) (hd : o.dst = some d) (hg : o.guard = some (j, want)) (hj : dstOf ops j = some t)
    (hb : look a0 ps t = .bool b) (hne : b ≠ want) (h : evB P ops w0 ks n a0 K l ((d, undef) :: ps)) : evB P ops w0 ks n a0 K (i :: l) ps := by
  simp only [evB]
  rw [if_pos hk]
  simp only [ho]
  exact ⟨undef, .inr ⟨rfl, j, want, b, t, hg, hj, hb, hne⟩, by rw [hd]; exact h⟩

theorem evB_skip {i : Nat} {l : List Nat} {ps : Puts} (hk : (ks.getD i .alloc).isVal = false) (h : evB P ops w0 ks n a0 K l ps) : evB P ops w0 ks n a0 K (i :: l) ps := by
  simp only [evB]
  rw [if_neg (by rw [hk]; exact Bool.false_ne_true)]
  exact h

theorem evB_nil {ps : Puts} (h : K ps) : evB P ops w0 ks n a0 K [] ps := h

/-! What single operations give. -/
variable {o : Oper} {ρ : Operand → Value}

theorem gives_run {v : Value} (h : ∀ w, (execOp ρ o).run P w = .ok (.value v) w) : GivesV P w0 o ρ v := fun w _ => h w

theorem gives_move {x : Operand} {v : Value} (ho : o.op = .move x) (hx : ρ x = v) : GivesV P w0 o ρ v := gives_run fun w => by simp only [execOp, ho, hx]; rfl
theorem gives_assign {x : Operand} {v : Value} (ho : o.op = .assign x) (hx : ρ x = v) : GivesV P w0 o ρ v := gives_run fun w => by simp only [execOp, ho, hx]; rfl

theorem gives_nilCheck {x : Operand} {p : Addr} (ho : o.op = .nilCheck x) (hx : ρ x = .pointer (some p)) : GivesV P w0 o ρ (.pointer (some p)) := gives_run fun w => by simp only [execOp, ho, hx]; rfl

/-- The cells of a block, from an offset on. -/
theorem rangeAt_of_heap {w : World} {b off : Nat} {c : Array Value} {T : TypeId} {fr : Nat × Nat} {cs : List Value} (hh : w.heap[b]? = some (.cells c T fr)) (hcs : (c.toList.drop off).take cs.length = cs) : w.rangeAt b off cs := by
  intro j v hj
  unfold World.cell?
  simp only [hh]
  have hlt : j < cs.length := (List.getElem?_eq_some_iff.1 hj).1
  rw [← hcs, List.getElem?_take_of_lt hlt, List.getElem?_drop] at hj
  simpa using hj

theorem low_heap {w : World} (h : Below w0.heap.size w0 w) {b : Nat} {x : Obj} (hh : w0.heap[b]? = some x) : w.heap[b]? = some x := by
  have : b < w0.heap.size := (Array.getElem?_eq_some_iff.1 hh).1
  rw [h.block b this]; exact hh

/-- A struct or an array is read, whole. -/
theorem gives_loadRow {ty : TypeId} {x : Operand} {b off : Nat} {c : Array Value} {T : TypeId} {fr : Nat × Nat} {d : TypeDesc} (cs : List Value) (ho : o.op = .load ty x) (hx : ρ x = .pointer (some ⟨b, off, none⟩)) (hh : w0.heap[b]? = some (.cells c T fr))
    (hu : P.underlying ty = some d) (hd : d.isRow = true) (hi : (P.info? ty).map (·.size) = some cs.length) (hcs : (c.toList.drop off).take cs.length = cs) : GivesV P w0 o ρ (.agg cs.toArray) := by
  intro w hb
  have h : (execOp ρ o).run P w = .ok (.value (.agg cs.toArray)) w := by
    simp only [execOp, ho, hx, Sem.run_bind, run_loadAt_mid (P := P) w b off ty cs d (rangeAt_of_heap (low_heap hb hh) hcs) hu hd hi, Result.andThen_ok]; rfl
  exact h

theorem gives_loadRow5 {ty : TypeId} {x : Operand} {b off : Nat} {c : Array Value} {T : TypeId} {fr : Nat × Nat} {d : TypeDesc} {v0 v1 v2 v3 v4 : Value} (ho : o.op = .load ty x) (hx : ρ x = .pointer (some ⟨b, off, none⟩)) (hh : w0.heap[b]? = some (.cells c T fr))
    (hu : P.underlying ty = some d) (hd : d.isRow = true) (hi : (P.info? ty).map (·.size) = some 5) (hcs : (c.toList.drop off).take 5 = [v0, v1, v2, v3, v4]) : GivesV P w0 o ρ (.agg #[v0, v1, v2, v3, v4]) :=
  gives_loadRow [v0, v1, v2, v3, v4] ho hx hh hu hd hi hcs

theorem run_loadVar_one {w : World} {ty : TypeId} {b off : Nat} {v : Value} {d : TypeDesc} (hc : w.cell? ⟨b, off, none⟩ = some v) (hu : P.underlying ty = some d) (hd : d.isRow = false) : (Instr.loadAt ty (.pointer (some ⟨b, off, none⟩))).run P w = .ok v w := by
  have hagg : (isAgg ty).run P w = .ok false w := by
    unfold isAgg
    rw [Sem.run_bind, run_underlying hu w]
    cases d <;> simp_all
  simp only [Instr.loadAt, Instr.sureAddr, loadVar, Sem.run_bind, Sem.run_pure, Result.andThen_ok, hagg]
  simp only [Bool.false_eq_true, if_false, run_load, hc]

/-- One cell is read. -/
theorem gives_loadOne {ty : TypeId} {x : Operand} {b off : Nat} {c : Array Value} {T : TypeId} {fr : Nat × Nat} {d : TypeDesc} {v : Value} (ho : o.op = .load ty x) (hx : ρ x = .pointer (some ⟨b, off, none⟩)) (hh : w0.heap[b]? = some (.cells c T fr))
    (hu : P.underlying ty = some d) (hd : d.isRow = false) (hcs : c[off]? = some v) : GivesV P w0 o ρ v := by
  intro w hb
  have hc : w.cell? ⟨b, off, none⟩ = some v := by
    unfold World.cell?
    simp only [low_heap hb hh]
    simpa using hcs
  have h : (execOp ρ o).run P w = .ok (.value v) w := by
    simp only [execOp, ho, hx, Sem.run_bind, run_loadVar_one hc hu hd, Result.andThen_ok]; rfl
  exact h

/-- A field's address. -/
theorem gives_fieldAddr {s : TypeId} {x : Operand} {f : Nat} {b off : Nat} {v : Value} (ho : o.op = .fieldAddr s x f) (hx : ρ x = .pointer (some ⟨b, off, none⟩)) (hr : ∀ w, (Instr.fieldAt s (.pointer (some ⟨b, off, none⟩)) f).run P w = .ok v w) : GivesV P w0 o ρ v :=
  gives_run fun w => by simp only [execOp, ho, hx, Sem.run_bind, hr w, Result.andThen_ok]; rfl

theorem gives_field {s : TypeId} {x : Operand} {f : Nat} {u v : Value} (ho : o.op = .field s x f) (hx : ρ x = u) (hr : ∀ w, (Instr.field s u f).run P w = .ok v w) : GivesV P w0 o ρ v :=
  gives_run fun w => by simp only [execOp, ho, hx, Sem.run_bind, hr w, Result.andThen_ok]; rfl

theorem gives_indexAddr {t : TypeId} {x i : Operand} {u k v : Value} (ho : o.op = .indexAddr t x i) (hx : ρ x = u) (hk : ρ i = k) (hr : ∀ w, (Instr.indexAt t u k).run P w = .ok v w) : GivesV P w0 o ρ v :=
  gives_run fun w => by simp only [execOp, ho, hx, hk, Sem.run_bind, hr w, Result.andThen_ok]; rfl

theorem gives_index {t : TypeId} {x i : Operand} {u k v : Value} (ho : o.op = .index t x i) (hx : ρ x = u) (hk : ρ i = k) (hr : ∀ w, (Instr.index t u k).run P w = .ok v w) : GivesV P w0 o ρ v :=
  gives_run fun w => by simp only [execOp, ho, hx, hk, Sem.run_bind, hr w, Result.andThen_ok]; rfl

theorem gives_build {t : TypeId} {parts : Array (Nat × Operand)} {vs : Array (Nat × Value)} {v : Value} (ho : o.op = .build t parts) (hp : (parts.map fun (i, x) => (i, ρ x)) = vs) (hr : ∀ w, (Instr.build t vs).run P w = .ok v w) : GivesV P w0 o ρ v :=
  gives_run fun w => by simp only [execOp, ho, hp, Sem.run_bind, hr w, Result.andThen_ok]; rfl

theorem gives_extract {t : Operand} {i : Nat} {vs : Array Value} {v : Value} (ho : o.op = .extract t i) (hx : ρ t = .tuple vs) (hr : ∀ w, (Instr.extract (.tuple vs) i).run P w = .ok v w) : GivesV P w0 o ρ v :=
  gives_run fun w => by simp only [execOp, ho, hx, Sem.run_bind, hr w, Result.andThen_ok]; rfl

/-- Two numbers, or two Bools. -/
theorem gives_binOp {op : BinOp} {t u : TypeId} {x y : Operand} {a b v : Value} (ho : o.op = .binOp op t x y u) (hx : ρ x = a) (hy : ρ y = b) (hr : ∀ w, (do eqGuard op t x y a b; binOp op t a b : Sem Value).run P w = .ok v w) : GivesV P w0 o ρ v :=
  gives_run fun w => by
    simp only [execOp, ho, hx, hy]
    have := hr w
    rw [Sem.run_bind, this]; rfl

/-- What two numbers come to, but for quotients and shifts. -/
def intV (op : BinOp) (k : IntKind) (a b : Int) : Value :=
  match op with
  | .add => .int k (k.wrap (a + b))
  | .sub => .int k (k.wrap (a - b))
  | .mul => .int k (k.wrap (a * b))
  | .and => .int k (k.wrap (BitVec.ofInt k.bits a &&& BitVec.ofInt k.bits b).toNat)
  | .or => .int k (k.wrap (BitVec.ofInt k.bits a ||| BitVec.ofInt k.bits b).toNat)
  | .xor => .int k (k.wrap (BitVec.ofInt k.bits a ^^^ BitVec.ofInt k.bits b).toNat)
  | .andNot => .int k (k.wrap (BitVec.ofInt k.bits a &&& ~~~ BitVec.ofInt k.bits b).toNat)
  | .eql => .bool (a == b)
  | .neq => .bool (a != b)
  | .lss => .bool (a < b)
  | .leq => .bool (a ≤ b)
  | .gtr => .bool (a > b)
  | .geq => .bool (a ≥ b)
  | _ => undef

def intOp : BinOp → Bool
  | .quo | .rem | .shl | .shr => false
  | _ => true

theorem gives_int {op : BinOp} {t u : TypeId} {x y : Operand} {k : IntKind} {a b : Int} (ho : o.op = .binOp op t x y u) (hx : ρ x = .int k a) (hy : ρ y = .int k b) (hop : intOp op = true) : GivesV P w0 o ρ (intV op k a b) :=
  gives_binOp ho hx hy fun w => by
    cases op <;> first | (simp [intOp] at hop; done) | (simp [eqGuard, binOp, intV, Op.intArith, Op.intBits, Op.intCmp]; done)

theorem gives_shl {t u : TypeId} {x y : Operand} {k yk : IntKind} {a : Int} {n : Nat} (ho : o.op = .binOp .shl t x y u) (hx : ρ x = .int k a) (hy : ρ y = .int yk (n : Int)) : GivesV P w0 o ρ (.int k (k.wrap (a * 2 ^ (min n k.bits)))) :=
  gives_binOp ho hx hy fun w => by
    have : ¬ ((n : Int) < 0) := by omega
    simp [eqGuard, binOp, Op.shift, this]
theorem gives_shr {t u : TypeId} {x y : Operand} {k yk : IntKind} {a : Int} {n : Nat} (ho : o.op = .binOp .shr t x y u) (hx : ρ x = .int k a) (hy : ρ y = .int yk (n : Int)) : GivesV P w0 o ρ (.int k (a.fdiv (2 ^ (min n k.bits)))) :=
  gives_binOp ho hx hy fun w => by
    have : ¬ ((n : Int) < 0) := by omega
    simp [eqGuard, binOp, Op.shift, this]

/-- A field's address, by the struct's table. -/
theorem gives_fa {s : TypeId} {x : Operand} {f : Nat} {b off : Nat} {fs : Array Field} {fld : Field} {k : Nat} (ho : o.op = .fieldAddr s x f) (hx : ρ x = .pointer (some ⟨b, off, none⟩)) (hu : P.underlying s = some (.struct fs)) (hf : fs[f]? = some fld) (hs : ∀ w, (Go.sizeOf fld.type).run P w = .ok (k + 1) w) :
    GivesV P w0 o ρ (.pointer (some ⟨b, off + fld.offset, none⟩)) :=
  gives_fieldAddr ho hx fun w => by
    simp only [Instr.fieldAt, Sem.run_bind, run_underlying hu w, Result.andThen_ok]
    simp only [hf, Sem.run_bind, Instr.sureAddr, Sem.run_pure, Result.andThen_ok, fieldPlace, hs w]
    simp [Addr.add_mid]

/-- An element's address in an array. -/
theorem gives_ia {t elem : TypeId} {x i : Operand} {b off n sz : Nat} {kk : IntKind} {j : Int} (ho : o.op = .indexAddr t x i) (hx : ρ x = .pointer (some ⟨b, off, none⟩)) (hi : ρ i = .int kk j) (hu : P.underlying t = some (.array n elem)) (hs : ∀ w, (Go.sizeOf elem).run P w = .ok sz w) (hj : 0 ≤ j ∧ j < (n : Int)) :
    GivesV P w0 o ρ (.pointer (some ⟨b, off + j.toNat * sz, none⟩)) :=
  gives_indexAddr ho hx hi fun w => by
    simp only [Instr.indexAt, asIntOf, Sem.run_bind, run_underlying hu w, Result.andThen_ok, Sem.run_pure, Instr.sureAddr]
    simp [hj, hs w, Result.andThen, Addr.add_mid]

theorem gives_unOp {op : UnOp} {t : TypeId} {x : Operand} {a v : Value} (ho : o.op = .unOp op t x) (hx : ρ x = a) (hr : ∀ w, (Op.unary op a).run P w = .ok v w) : GivesV P w0 o ρ v :=
  gives_run fun w => by simp only [execOp, ho, hx, Sem.run_bind, hr w, Result.andThen_ok]; rfl

/-- A call of a named function with a body, by its contract. -/
theorem gives_call {f : FuncId} {fn : Func} {as : Array Operand} {ts : Array TypeId} {vs : Array Value} {v : Value} (ho : o.op = .call { callee := .value (.func f), args := as, argTypes := ts }) (hf : ρ (.func f) = .func (.func f) #[] #[]) (ha : as.map ρ = vs)
    (hfn : P.funcs[f]? = some fn) (hng : (fn.name == "runtime.NumGoroutine") = false) (hb : fn.body.isNone = false) (hc : ∀ w, Below w0.heap.size w0 w → Calls P f vs w fun e w' => e = .returned v ∧ Below w.heap.size w w') : GivesE P w0 o ρ v := by
  intro w hw
  have hne : ¬ fn.name = "runtime.NumGoroutine" := by simpa using hng
  have hbn : ¬ fn.body = none := fun h => by rw [h] at hb; cases hb
  have h : (execOp ρ o).run P w = .ok (.enter f vs) w := by
    simp [execOp, ho, resolve, hf, ha, Deferred.ofValue, invoke, callFunc, hfn, hne, hbn, Sem.run_bind, Result.andThen]
  rw [h]
  exact ⟨rfl, hc w hw⟩

/-- A region that draws its order, whose first n0 operations are values, whatever they may be; then the tail. -/
theorem wp_region_vals {Q : Exit → Act → World → Prop} {id : Nat} {w : World} (n0 : Nat) (hm : P.follows .mixedOrders = true) (hok : okMix ops (List.replicate n0 .val) a0.tmps.size n0 (anc ops.toList []) = true)
    (hev : evB P ops w (List.replicate n0 .val) a0.tmps.size a0 (fun ps => ∀ w', Below w.heap.size w w' → (putAll a0 ps).eval = ev a0 ps → wpList P ops Q (ops.toList.drop n0) (putAll a0 ps) w') (List.range' 0 n0) []) : (Code.region id ops true).wp P Q a0 w := by
  have F := facts_of hok
  have hk : ∀ i, i < n0 → (List.replicate n0 SK.val).getD i .val = .val := by
    intro i hi
    simp [List.getD_eq_getElem?_getD, hi]
  refine wp_region_mix (List.replicate n0 .val) n0 hm hok ?_
  refine evA_of_evB (K' := _) F rfl (fun ps hp h => ?_) _ [] (fun i hi => (by simpa using (List.mem_range'_1.1 hi).2)) (fun p hp => by cases hp) hev
  refine ⟨fun _ => .deferred none, fun _ => .deferred none, ⟨fun i o hi _ h => ?_, fun i o j hi _ h => ?_⟩, fun β w' hb _ _ => ?_⟩
  · rw [hk i hi] at h; cases h
  · rw [hk i hi] at h; cases h
  · have hfa : finalAct ops (List.replicate n0 .val) n0 β (putAll a0 ps) = putAll a0 ps := by
      unfold finalAct
      have : ∀ (l : List Nat), (∀ i ∈ l, i < n0) → l.foldl (rput ops (List.replicate n0 .val) β) (putAll a0 ps) = putAll a0 ps := by
        intro l
        induction l with
        | nil => intro _; rfl
        | cons i l ih =>
          intro hl
          simp only [List.foldl_cons]
          have : rput ops (List.replicate n0 .val) β (putAll a0 ps) i = putAll a0 ps := by
            unfold rput; rw [hk i (hl i (by simp))]
          rw [this]
          exact ih fun j hj => hl j (List.mem_cons_of_mem _ hj)
      exact this _ fun i hi => List.mem_range.1 hi
    rw [hfa]
    have hlen : (ops.toList.drop n0).length = ops.size - n0 := by simp
    have e := wpOps_eq_wpList (P := P) (ops := ops) (Q := Q) (ops.toList.drop n0) n0 (fun j => by rw [List.getElem?_drop]; simp)
    rw [hlen] at e
    rw [e]
    exact h w' hb (ev_putAll a0 ps hp)

/-- One block holds something new; all else is as it was. -/
structure Upd (b : Nat) (x : Obj) (w w' : World) : Prop where
  at_ : w'.heap[b]? = some x
  ne : ∀ k, k ≠ b → w'.heap[k]? = w.heap[k]?
  size : w'.heap.size = w.heap.size
  os : w'.os = w.os
  tape : w'.tape = w.tape
  output : w'.output = w.output

theorem Upd.below {b B : Nat} {x : Obj} {w w' : World} (h : Upd b x w w') (hB : B ≤ b) : Below B w w' := ⟨h.os, h.tape, h.output, by rw [h.size]; exact Nat.le_refl _, fun k hk => h.ne k (by omega)⟩

/-- A value of one cell is stored into a known block. -/
theorem wpList_storeOne {Q : Exit → Act → World → Prop} {rest : List Oper} {a : Act} {w : World} {ty : TypeId} {x y : Operand} {b off : Nat} {c : Array Value} {T : TypeId} {v : Value} (hg : o.guard = none) (hd : o.dst = none)
    (ho : o.op = .store ty x y) (hx : a.eval x = .pointer (some ⟨b, off, none⟩)) (hy : a.eval y = v) (h1 : v.cells = #[v]) (h2 : ∀ cs, v ≠ .agg cs) (h3 : ∀ cs, v ≠ .tuple cs) (hh : w.heap[b]? = some (.cells c T (0, 0))) (hoff : off < c.size)
    (hi : (P.info? ty).map (·.size) = some 1) (h : ∀ w2, Upd b (.cells (c.setIfInBounds off v) T (0, 0)) w w2 → wpList P ops Q rest a w2) : wpList P ops Q (o :: rest) a w := by
  refine wpList_plain hg fun K hK => ?_
  have hcell : w.cell? ⟨b, off, none⟩ = some c[off] := by
    unfold World.cell?; simp [hh, hoff]
  have hfr : w.frozen? ⟨b, off, none⟩ = false := by
    unfold World.frozen?; simp [hh]
  have hrun : (execOp a.eval o).run P w = .ok .skip (w.setCell ⟨b, off, none⟩ v) := by
    obtain ⟨inf, hinf⟩ : ∃ inf, P.info? ty = some inf := by cases hq : P.info? ty with
      | none => simp [hq] at hi
      | some inf => exact ⟨inf, rfl⟩
    have hsz : inf.size = 1 := by simpa [hinf] using hi
    simp only [execOp, ho, hx, hy]
    have hst : (store ⟨b, off, none⟩ v).run P w = .ok () (w.setCell ⟨b, off, none⟩ v) := by
      unfold store
      cases v <;> first | exact absurd rfl (h2 _) | exact absurd rfl (h3 _) | simp [Sem.run, hcell, hfr]
    simp [Instr.storeAt, Instr.sureAddr, storeVar, sizeOf, typeInfo, hinf, hsz, h1, storeCells, Sem.run_bind, Addr.add, hst, Result.andThen]
  unfold Oper.wp
  rw [hrun]
  simp only [Oper.upon, hd, Act.put]
  refine hK _ _ (h _ ⟨?_, fun k hk => Below.heap_setCell _ _ _ _ hk, by simp [World.setCell], rfl, rfl, rfl⟩)
  simp only [World.setCell, Array.getElem?_modify, hh]
  simp

end
end Go.Mix
