/- Stepping a function: the frame is a list of what has been put; the memory is a list of known blocks. -/
import Derived.Test.YtbonnnakebfniaaDoorMx
import Derived.Deep.MidRow
import Derived.KernelRfl
import Derived.LoopN
namespace Go.Mx
open Go Go.RowKit

/-- The slots that have been written so far, by their numbers. -/
abbrev Puts := List (Tmp × Value)

def look (a0 : Act) : Puts → Tmp → Value
  | [], t => a0.tmps.getD t undef
  | (d, v) :: ps, t => if d = t then v else look a0 ps t

def ev (a0 : Act) (ps : Puts) : Operand → Value
  | .tmp t => look a0 ps t
  | .const v => v
  | .global g => .pointer (some ⟨g, 0, none⟩)
  | .func f => .func (.func f) #[] #[]

def putAll (a0 : Act) : Puts → Act
  | [] => a0
  | (d, v) :: ps => (putAll a0 ps).put (some d) v

theorem putAll_size (a0 : Act) : ∀ ps : Puts, (putAll a0 ps).tmps.size = a0.tmps.size
  | [] => rfl
  | (d, v) :: ps => by rw [putAll, put_size, putAll_size a0 ps]

theorem putAll_defers (a0 : Act) : ∀ ps : Puts, (putAll a0 ps).defers = a0.defers
  | [] => rfl
  | (d, v) :: ps => by rw [putAll, put_defers', putAll_defers a0 ps]

theorem look_putAll (a0 : Act) : ∀ (ps : Puts) (t : Tmp), (∀ p ∈ ps, p.1 < a0.tmps.size) → (putAll a0 ps).tmps.getD t undef = look a0 ps t
  | [], _, _ => rfl
  | (d, v) :: ps, t, h => by
    have hd := h (d, v) (by simp)
    rw [putAll, getD_put _ _ _ _ (fun x hx => by rw [putAll_size]; cases hx; exact hd), look, look_putAll a0 ps t fun p hp => h p (List.mem_cons_of_mem _ hp)]
    simp only [Option.some.injEq]

theorem ev_putAll (a0 : Act) (ps : Puts) (h : ∀ p ∈ ps, p.1 < a0.tmps.size) : (putAll a0 ps).eval = ev a0 ps := by
  funext x
  cases x with
  | tmp t => exact look_putAll a0 ps t h
  | _ => rfl

def okB (n : Nat) (ps : Puts) : Bool := ps.all fun p => Nat.blt p.1 n

theorem okB_mem {a0 : Act} {n : Nat} {ps : Puts} (hn : a0.tmps.size = n) (h : okB n ps = true) : ∀ p ∈ ps, p.1 < a0.tmps.size := fun p hp => by
  have := List.all_eq_true.1 h p hp
  rw [hn]; simpa using this

/-- A list of what is there already changes nothing. -/
theorem putAll_self {a : Act} : ∀ {ps : Puts}, (∀ p ∈ ps, a.tmps.getD p.1 undef = p.2 ∧ p.1 < a.tmps.size) → putAll a ps = a
  | [], _ => rfl
  | (d, v) :: ps, h => by
    have ih := putAll_self (a := a) (ps := ps) fun p hp => h p (List.mem_cons_of_mem _ hp)
    rw [putAll, ih]
    obtain ⟨h1, h2⟩ := h (d, v) (by simp)
    refine act_ext (put_size ..) (put_defers' ..) fun t => ?_
    rw [getD_put _ _ _ _ (fun x hx => by cases hx; exact h2)]
    by_cases hd : d = t
    · subst hd; rw [if_pos rfl]; exact h1.symm
    · rw [if_neg (by simpa using hd)]

/-- A frame as another list tells it, slot by slot. -/
def sameB (ps qs : Puts) : Prop := ∀ (a0 : Act), ∀ q ∈ qs, look a0 ps q.1 = q.2

theorem putAll_as {a0 : Act} {n : Nat} {ps : Puts} (qs : Puts) (hn : a0.tmps.size = n) (hb : okB n ps = true) (hq : okB n qs = true) (h : ∀ q ∈ qs, look a0 ps q.1 = q.2) : putAll (putAll a0 ps) qs = putAll a0 ps :=
  putAll_self fun p hp => ⟨by rw [look_putAll a0 ps _ (okB_mem hn hb)]; exact h p hp, by rw [putAll_size]; exact okB_mem hn hq p hp⟩

/-! ### Known blocks -/
structure Cl where
  b : Nat
  c : Array Value
  T : TypeId
  rw : Bool := true

/-- The memory of a call that began in w0 and may write the blocks of S: what is known of some blocks; whatever else was there is as it was. -/
structure Mem (w0 : World) (S : List Nat) (w : World) (m : List Cl) : Prop where
  at_ : ∀ c ∈ m, w.heap[c.b]? = some (.cells c.c c.T (0, 0))
  nd : (m.map Cl.b).Nodup
  own : ∀ c ∈ m, c.rw = true → c.b ∈ S ∨ w0.heap.size ≤ c.b
  keep : ∀ k, k < w0.heap.size → k ∉ S → w.heap[k]? = w0.heap[k]?
  size : w0.heap.size ≤ w.heap.size
  os : w.os = w0.os
  tape : w.tape = w0.tape
  output : w.output = w0.output

section mem
variable {w0 w w' : World} {S : List Nat} {m : List Cl}

theorem Mem.start (w : World) : Mem w [] w [] := ⟨fun _ h => (by cases h), .nil, fun _ h => (by cases h), fun _ _ _ => rfl, Nat.le_refl _, rfl, rfl, rfl⟩

theorem Mem.done (h : Mem w0 [] w m) : Below w0.heap.size w0 w := ⟨h.os, h.tape, h.output, h.size, fun k hk => h.keep k hk (by simp)⟩

theorem Mem.lt (h : Mem w0 S w m) {c : Cl} (hc : c ∈ m) : c.b < w.heap.size := (Array.getElem?_eq_some_iff.1 (h.at_ c hc)).1

theorem Mem.low (h : Mem w0 S w m) (hb : Below w.heap.size w w') : Mem w0 S w' m :=
  ⟨fun c hc => by rw [hb.block _ (h.lt hc)]; exact h.at_ c hc, h.nd, h.own, fun k hk hs => by rw [hb.block _ (Nat.lt_of_lt_of_le hk h.size)]; exact h.keep k hk hs, Nat.le_trans h.size hb.size,
    hb.os.trans h.os, hb.tape.trans h.tape, hb.output.trans h.output⟩

theorem Mem.get (h : Mem w0 S w m) (i : Nat) {c : Cl} (hi : m[i]? = some c) : w.heap[c.b]? = some (.cells c.c c.T (0, 0)) := h.at_ c (List.mem_of_getElem? hi)

theorem Mem.sub (h : Mem w0 S w m) (k : List Cl) (hs : k.Sublist m) : Mem w0 S w k :=
  ⟨fun c hc => h.at_ c (hs.subset hc), h.nd.sublist (hs.map _), fun c hc => h.own c (hs.subset hc), h.keep, h.size, h.os, h.tape, h.output⟩

/-- A new block. -/
theorem Mem.new (h : Mem w0 S w m) (c : Array Value) (T : TypeId) : Mem w0 S (w.alloc (.cells c T (0, 0))) (⟨w.heap.size, c, T, true⟩ :: m) := by
  have hb : Below w.heap.size w (w.alloc (.cells c T (0, 0))) := (Below.refl _ _).alloc (Nat.le_refl _) _
  have h' := h.low hb
  refine ⟨fun x hx => ?_, ?_, fun x hx hr => ?_, h'.keep, h'.size, h'.os, h'.tape, h'.output⟩
  · rcases List.mem_cons.1 hx with rfl | hx
    · show (w.heap.push _)[w.heap.size]? = _
      rw [Array.getElem?_push_size]
    · exact h'.at_ x hx
  · rw [List.map_cons, List.nodup_cons]
    refine ⟨fun hm => ?_, h.nd⟩
    obtain ⟨x, hx, he⟩ := List.mem_map.1 hm
    have := h.lt hx
    rw [he] at this
    exact absurd this (Nat.lt_irrefl _)
  · rcases List.mem_cons.1 hx with rfl | hx
    · exact .inr h.size
    · exact h.own x hx hr

/-- Fresh blocks, whose names are given. -/
theorem Mem.add (h : Mem w0 S w m) {b : Nat} {c : Array Value} {T : TypeId} (hh : w.heap[b]? = some (.cells c T (0, 0))) (hge : w0.heap.size ≤ b) (hne : b ∉ m.map Cl.b) : Mem w0 S w (⟨b, c, T, true⟩ :: m) := by
  refine ⟨fun x hx => ?_, ?_, fun x hx hr => ?_, h.keep, h.size, h.os, h.tape, h.output⟩
  · rcases List.mem_cons.1 hx with rfl | hx
    · exact hh
    · exact h.at_ x hx
  · rw [List.map_cons, List.nodup_cons]; exact ⟨hne, h.nd⟩
  · rcases List.mem_cons.1 hx with rfl | hx
    · exact .inr hge
    · exact h.own x hx hr

/-- A block that came in. -/
theorem Mem.take (h : Mem w0 S w m) {b : Nat} {c : Array Value} {T : TypeId} {rw : Bool} (hh : w.heap[b]? = some (.cells c T (0, 0))) (ho : rw = true → b ∈ S ∨ w0.heap.size ≤ b) (hne : b ∉ m.map Cl.b) : Mem w0 S w (⟨b, c, T, rw⟩ :: m) := by
  refine ⟨fun x hx => ?_, ?_, fun x hx hr => ?_, h.keep, h.size, h.os, h.tape, h.output⟩
  · rcases List.mem_cons.1 hx with rfl | hx
    · exact hh
    · exact h.at_ x hx
  · rw [List.map_cons, List.nodup_cons]; exact ⟨hne, h.nd⟩
  · rcases List.mem_cons.1 hx with rfl | hx
    · exact ho hr
    · exact h.own x hx hr

theorem mem_set_cases {α : Type} {l : List α} {j : Nat} {x y : α} (h : y ∈ l.set j x) : y = x ∨ ∃ i, i ≠ j ∧ l[i]? = some y := by
  obtain ⟨i, hi⟩ := List.mem_iff_getElem?.1 h
  rw [List.getElem?_set] at hi
  by_cases hij : j = i
  · rw [if_pos hij] at hi
    split at hi
    · exact .inl (Option.some.inj hi).symm
    · cases hi
  · rw [if_neg hij] at hi
    exact .inr ⟨i, fun e => hij e.symm, hi⟩

theorem Mem.ne (h : Mem w0 S w m) {i j : Nat} {x y : Cl} (hi : m[i]? = some x) (hj : m[j]? = some y) (hne : i ≠ j) : x.b ≠ y.b := by
  intro he
  have h1 : (m.map Cl.b)[i]? = some x.b := by rw [List.getElem?_map, hi]; rfl
  have h2 : (m.map Cl.b)[j]? = some x.b := by rw [List.getElem?_map, hj, he]; rfl
  have hlt : i < (m.map Cl.b).length := (List.getElem?_eq_some_iff.1 h1).1
  exact hne ((List.getElem?_inj hlt h.nd).1 (h1.trans h2.symm))

theorem map_set_b {m : List Cl} {j : Nat} {x y : Cl} (hj : m[j]? = some x) (hb : y.b = x.b) : (m.set j y).map Cl.b = m.map Cl.b := by
  refine List.ext_getElem? fun i => ?_
  rw [List.getElem?_map, List.getElem?_map, List.getElem?_set]
  by_cases hij : j = i
  · subst hij
    rw [if_pos rfl, hj]
    have : j < m.length := (List.getElem?_eq_some_iff.1 hj).1
    simp [this, hb]
  · rw [if_neg hij]

/-- A known block is written. -/
theorem Mem.put (h : Mem w0 S w m) (j : Nat) {x : Cl} (hj : m[j]? = some x) (hr : x.rw = true) (c : Array Value) : Mem w0 S { w with heap := w.heap.setIfInBounds x.b (.cells c x.T (0, 0)) } (m.set j ⟨x.b, c, x.T, true⟩) := by
  have hx := List.mem_of_getElem? hj
  have hlt := h.lt hx
  refine ⟨fun y hy => ?_, ?_, fun y hy hyr => ?_, fun k hk hs => ?_, by simpa using h.size, h.os, h.tape, h.output⟩
  · rcases mem_set_cases hy with rfl | ⟨i, hij, hi⟩
    · show (w.heap.setIfInBounds x.b _)[x.b]? = _
      rw [Array.getElem?_setIfInBounds_self_of_lt hlt]
    · show (w.heap.setIfInBounds x.b _)[y.b]? = _
      rw [Array.getElem?_setIfInBounds_ne (h.ne hj hi (fun e => hij e.symm))]
      exact h.at_ y (List.mem_of_getElem? hi)
  · rw [map_set_b (y := ⟨x.b, c, x.T, true⟩) hj rfl]; exact h.nd
  · rcases mem_set_cases hy with rfl | ⟨i, hij, hi⟩
    · exact h.own x hx hr
    · exact h.own y (List.mem_of_getElem? hi) hyr
  · show (w.heap.setIfInBounds x.b _)[k]? = _
    rw [Array.getElem?_setIfInBounds_ne ?_]
    · exact h.keep k hk hs
    · rintro rfl
      rcases h.own x hx hr with h1 | h1
      · exact hs h1
      · omega

/-- What a callee that writes blocks leaves: those blocks, and nothing else that was there. -/
structure Wrote (w w' : World) (us : List Cl) : Prop where
  at_ : ∀ c ∈ us, w'.heap[c.b]? = some (.cells c.c c.T (0, 0))
  keep : ∀ k, k < w.heap.size → k ∉ us.map Cl.b → w'.heap[k]? = w.heap[k]?
  size : w.heap.size ≤ w'.heap.size
  os : w'.os = w.os
  tape : w'.tape = w.tape
  output : w'.output = w.output

theorem Mem.wrote (h : Mem w [] w' m) : Wrote w w' [] := ⟨fun _ hc => (by cases hc), fun k hk _ => h.keep k hk (by simp), h.size, h.os, h.tape, h.output⟩

/-- The callee's own words, read as what it leaves. -/
theorem Mem.wroteS (h : Mem w0 S w m) (us : List Cl) (hs : us.Sublist m) (hS : S = us.map Cl.b) : Wrote w0 w us :=
  ⟨fun c hc => h.at_ c (hs.subset hc), fun k hk hu => h.keep k hk (by rw [hS]; exact hu), h.size, h.os, h.tape, h.output⟩

/-- One block, handed to a callee that writes it. -/
theorem Mem.call1 (h : Mem w0 S w m) (j : Nat) {x : Cl} (hj : m[j]? = some x) (hr : x.rw = true) {c : Array Value} (hw : Wrote w w' [⟨x.b, c, x.T, true⟩]) : Mem w0 S w' (m.set j ⟨x.b, c, x.T, true⟩) := by
  have hx := List.mem_of_getElem? hj
  refine ⟨fun y hy => ?_, ?_, fun y hy hyr => ?_, fun k hk hs => ?_, Nat.le_trans h.size hw.size, hw.os.trans h.os, hw.tape.trans h.tape, hw.output.trans h.output⟩
  · rcases mem_set_cases hy with rfl | ⟨i, hij, hi⟩
    · exact hw.at_ _ (by simp)
    · have hy' := List.mem_of_getElem? hi
      rw [hw.keep y.b (h.lt hy') (by simpa using h.ne hi hj hij)]
      exact h.at_ y hy'
  · rw [map_set_b (y := ⟨x.b, c, x.T, true⟩) hj rfl]; exact h.nd
  · rcases mem_set_cases hy with rfl | ⟨i, hij, hi⟩
    · exact h.own x hx hr
    · exact h.own y (List.mem_of_getElem? hi) hyr
  · rw [hw.keep k (Nat.lt_of_lt_of_le hk h.size) ?_]
    · exact h.keep k hk hs
    · simp only [List.map_cons, List.map_nil, List.mem_singleton]
      rintro rfl
      rcases h.own x hx hr with h1 | h1
      · exact hs h1
      · omega

/-- Two blocks. -/
theorem Mem.call2 (h : Mem w0 S w m) (j k : Nat) {x y : Cl} (hj : m[j]? = some x) (hk : m[k]? = some y) (hjk : j ≠ k) (hrx : x.rw = true) (hry : y.rw = true) {c d : Array Value} (hw : Wrote w w' [⟨x.b, c, x.T, true⟩, ⟨y.b, d, y.T, true⟩]) :
    Mem w0 S w' ((m.set j ⟨x.b, c, x.T, true⟩).set k ⟨y.b, d, y.T, true⟩) := by
  have hx := List.mem_of_getElem? hj
  have hy := List.mem_of_getElem? hk
  have hk' : (m.set j ⟨x.b, c, x.T, true⟩)[k]? = some y := by rw [List.getElem?_set_ne hjk]; exact hk
  have hc : ∀ z ∈ (m.set j ⟨x.b, c, x.T, true⟩).set k ⟨y.b, d, y.T, true⟩, z = ⟨y.b, d, y.T, true⟩ ∨ z = ⟨x.b, c, x.T, true⟩ ∨ ∃ i, i ≠ j ∧ i ≠ k ∧ m[i]? = some z := by
    intro z hz
    rcases mem_set_cases hz with rfl | ⟨i, hik, hi⟩
    · exact .inl rfl
    · rw [List.getElem?_set] at hi
      by_cases hji : j = i
      · rw [if_pos hji] at hi
        split at hi
        · exact .inr (.inl (Option.some.inj hi).symm)
        · cases hi
      · rw [if_neg hji] at hi
        exact .inr (.inr ⟨i, fun e => hji e.symm, hik, hi⟩)
  refine ⟨fun z hz => ?_, ?_, fun z hz hzr => ?_, fun n hn hs => ?_, Nat.le_trans h.size hw.size, hw.os.trans h.os, hw.tape.trans h.tape, hw.output.trans h.output⟩
  · rcases hc z hz with rfl | rfl | ⟨i, hij, hik, hi⟩
    · exact hw.at_ _ (by simp)
    · exact hw.at_ _ (by simp)
    · have hz' := List.mem_of_getElem? hi
      rw [hw.keep z.b (h.lt hz') (by simp [h.ne hi hj hij, h.ne hi hk hik])]
      exact h.at_ z hz'
  · rw [map_set_b (y := ⟨y.b, d, y.T, true⟩) hk' rfl, map_set_b (y := ⟨x.b, c, x.T, true⟩) hj rfl]; exact h.nd
  · rcases hc z hz with rfl | rfl | ⟨i, hij, hik, hi⟩
    · exact h.own y hy hry
    · exact h.own x hx hrx
    · exact h.own z (List.mem_of_getElem? hi) hzr
  · rw [hw.keep n (Nat.lt_of_lt_of_le hn h.size) ?_]
    · exact h.keep n hn hs
    · simp only [List.map_cons, List.map_nil, List.mem_cons, List.not_mem_nil, or_false]
      rintro (rfl | rfl)
      · rcases h.own x hx hrx with h1 | h1
        · exact hs h1
        · omega
      · rcases h.own y hy hry with h1 | h1
        · exact hs h1
        · omega
end mem

/-- A call that hands back a value and leaves what was there. -/
abbrev PureP (P : Program) (f : FuncId) (args : Array Value) (v : Value) : Prop := ∀ w, Calls P f args w fun e w' => e = .returned v ∧ Below w.heap.size w w'

/-! ### Worlds of that kind are not left -/
theorem kind_mem {w0 : World} {S : List Nat} {w : World} {m mR : List Cl} {pb : Nat → Nat} {ks : List SK} {n0 : Nat} (h : Mem w0 S w m) (hs : mR.Sublist m)
    (hp : ∀ i, i < n0 → ks.getD i .val = .put → ∃ x ∈ m, pb i = x.b ∧ x.rw = true ∧ x.b ∉ mR.map Cl.b) (hi : ∀ i j, i < n0 → j < n0 → ks.getD i .val = .put → ks.getD j .val = .put → pb i = pb j → i = j) :
    Kind (fun w' => Mem w0 S w' mR) w.heap.size pb ks n0 := by
  refine ⟨fun a b ha hb => ha.low hb, fun a b x ha hb => ?_, fun i hi hk a x ha => ?_, fun i hi hk => ?_, hi⟩
  · refine ⟨fun c hc => ?_, ha.nd, ha.own, fun k hk hkS => ?_, by simpa using ha.size, ha.os, ha.tape, ha.output⟩
    · have := h.lt (hs.subset hc)
      show (a.heap.setIfInBounds b x)[c.b]? = _
      rw [Array.getElem?_setIfInBounds_ne (by omega)]
      exact ha.at_ c hc
    · have := h.size
      show (a.heap.setIfInBounds b x)[k]? = _
      rw [Array.getElem?_setIfInBounds_ne (by omega)]
      exact ha.keep k hk hkS
  · obtain ⟨y, hy, he, hr, hn⟩ := hp i hi hk
    rw [he]
    refine ⟨fun c hc => ?_, ha.nd, ha.own, fun k hk hkS => ?_, by simpa using ha.size, ha.os, ha.tape, ha.output⟩
    · show (a.heap.setIfInBounds y.b x)[c.b]? = _
      rw [Array.getElem?_setIfInBounds_ne (fun e => hn (List.mem_map.2 ⟨c, hc, e.symm⟩))]
      exact ha.at_ c hc
    · show (a.heap.setIfInBounds y.b x)[k]? = _
      rw [Array.getElem?_setIfInBounds_ne ?_]
      · exact ha.keep k hk hkS
      · rintro rfl
        rcases h.own y hy hr with h1 | h1
        · exact hkS h1
        · omega
  · obtain ⟨y, hy, he, _⟩ := hp i hi hk
    rw [he]; exact h.lt hy

/-! ### What single operations give -/
section
variable {P : Program} {ops : Array Oper} {w0 : World} {S : List Nat} {m : List Cl}

def GE (P : Program) (w0 : World) (S : List Nat) (m : List Cl) (o : Oper) (ρ : Operand → Value) (v : Value) : Prop := ∀ w, Mem w0 S w m → gUpon P w v ((execOp ρ o).run P w)

/-- A value at once: no call. -/
def GV (P : Program) (w0 : World) (S : List Nat) (m : List Cl) (o : Oper) (ρ : Operand → Value) (v : Value) : Prop := ∀ w, Mem w0 S w m → (execOp ρ o).run P w = .ok (.value v) w

theorem GV.E {o : Oper} {ρ : Operand → Value} {v : Value} (h : GV P w0 S m o ρ v) : GE P w0 S m o ρ v := fun w hb => by rw [h w hb]; exact ⟨rfl, rfl⟩

def wantedE (ops : Array Oper) (a0 : Act) (ps : Puts) (o : Oper) : Bool :=
  match o.guard with
  | none => true
  | some (j, want) => match dstOf ops j with
    | some t => match look a0 ps t with
      | .bool b => b == want
      | _ => false
    | none => false

theorem wanted_of_E {a0 : Act} {ps : Puts} {o : Oper} (h : ∀ p ∈ ps, p.1 < a0.tmps.size) (hw : wantedE ops a0 ps o = true) : Region.wanted o (yielded ops (putAll a0 ps).tmps) = true := by
  unfold wantedE at hw
  unfold Region.wanted
  cases hg : o.guard with
  | none => rfl
  | some p =>
    obtain ⟨j, want⟩ := p
    rw [hg] at hw
    simp only [] at hw ⊢
    unfold yielded
    change (match dstOf ops j with | some t => (match look a0 ps t with | .bool b => b == want | _ => false) | none => false) = true at hw
    change ((match (dstOf ops j).bind ((putAll a0 ps).tmps[·]?) with | some (.bool b) => some b | _ => none) == some want) = true
    cases hd : dstOf ops j with
    | none => rw [hd] at hw; cases hw
    | some t =>
      rw [hd] at hw
      simp only [Option.bind_some] at hw ⊢
      have hl := look_putAll a0 ps t h
      by_cases hlt : t < (putAll a0 ps).tmps.size
      · have e : (putAll a0 ps).tmps[t] = look a0 ps t := by rw [← hl]; simp [hlt]
        simp only [hlt, getElem?_pos, e]
        cases hv : look a0 ps t <;> rw [hv] at hw <;> simp only [] at hw ⊢ <;> first | cases hw | skip
        rename_i b
        have := eq_of_beq hw
        subst this
        simp
      · have e : (putAll a0 ps).tmps.getD t undef = undef := by simp [hlt]
        rw [← hl, e] at hw
        cases hw

theorem unwanted_of_E {a0 : Act} {ps : Puts} {o : Oper} {j : Nat} {want b : Bool} {t : Tmp} (h : ∀ p ∈ ps, p.1 < a0.tmps.size) (hg : o.guard = some (j, want)) (hd : dstOf ops j = some t)
    (hb : look a0 ps t = .bool b) (hne : b ≠ want) : Region.wanted o (yielded ops (putAll a0 ps).tmps) = false := by
  unfold Region.wanted
  rw [hg]
  simp only []
  unfold yielded
  change ((match (dstOf ops j).bind ((putAll a0 ps).tmps[·]?) with | some (.bool b) => some b | _ => none) == some want) = false
  rw [hd]
  simp only [Option.bind_some]
  have hl := look_putAll a0 ps t h
  have hlt : t < (putAll a0 ps).tmps.size := by
    refine Classical.byContradiction fun hlt => ?_
    rw [hb] at hl
    simp [hlt, undef] at hl
  have e : (putAll a0 ps).tmps[t] = .bool b := by rw [← hb, ← hl]; simp [hlt]
  simp only [hlt, getElem?_pos, e]
  simpa using hne

variable {o : Oper} {ρ : Operand → Value}

theorem g_run {v : Value} (h : ∀ w, (execOp ρ o).run P w = .ok (.value v) w) : GV P w0 S m o ρ v := fun w _ => h w

theorem g_move {x : Operand} {v : Value} (ho : o.op = .move x) (hx : ρ x = v) : GV P w0 S m o ρ v := g_run fun w => by simp only [execOp, ho, hx]; rfl
theorem g_assign {x : Operand} {v : Value} (ho : o.op = .assign x) (hx : ρ x = v) : GV P w0 S m o ρ v := g_run fun w => by simp only [execOp, ho, hx]; rfl
theorem g_nilCheck {x : Operand} {p : Addr} (ho : o.op = .nilCheck x) (hx : ρ x = .pointer (some p)) : GV P w0 S m o ρ (.pointer (some p)) := g_run fun w => by simp only [execOp, ho, hx]; rfl

/-- The cells of a block, from an offset on. -/
theorem rangeAt_of_heap {w : World} {b off : Nat} {c : Array Value} {T : TypeId} {fr : Nat × Nat} {cs : List Value} (hh : w.heap[b]? = some (.cells c T fr)) (hcs : (c.toList.drop off).take cs.length = cs) : w.rangeAt b off cs := by
  intro j v hj
  unfold World.cell?
  simp only [hh]
  have hlt : j < cs.length := (List.getElem?_eq_some_iff.1 hj).1
  rw [← hcs, List.getElem?_take_of_lt hlt, List.getElem?_drop] at hj
  simpa using hj

/-- A struct or an array is read, whole: from block i of the list. -/
theorem g_loadRow {ty : TypeId} {x : Operand} {b off : Nat} {c : Array Value} {T : TypeId} {rw : Bool} {d : TypeDesc} (i : Nat) (cs : List Value) (ho : o.op = .load ty x) (hx : ρ x = .pointer (some ⟨b, off, none⟩)) (hi : m[i]? = some ⟨b, c, T, rw⟩)
    (hu : P.underlying ty = some d) (hd : d.isRow = true) (hs : (P.info? ty).map (·.size) = some cs.length) (hcs : (c.toList.drop off).take cs.length = cs) : GV P w0 S m o ρ (.agg cs.toArray) := by
  intro w hM
  have h : (execOp ρ o).run P w = .ok (.value (.agg cs.toArray)) w := by
    simp only [execOp, ho, hx, Sem.run_bind, run_loadAt_mid (P := P) w b off ty cs d (rangeAt_of_heap (hM.get i hi) hcs) hu hd hs, Result.andThen_ok]; rfl
  exact h

theorem run_loadVar_one {w : World} {ty : TypeId} {b off : Nat} {v : Value} {d : TypeDesc} (hc : w.cell? ⟨b, off, none⟩ = some v) (hu : P.underlying ty = some d) (hd : d.isRow = false) : (Instr.loadAt ty (.pointer (some ⟨b, off, none⟩))).run P w = .ok v w := by
  have hagg : (isAgg ty).run P w = .ok false w := by
    unfold isAgg
    rw [Sem.run_bind, run_underlying hu w]
    cases d <;> simp_all
  simp only [Instr.loadAt, Instr.sureAddr, loadVar, Sem.run_bind, Sem.run_pure, Result.andThen_ok, hagg]
  simp only [Bool.false_eq_true, if_false, run_load, hc]

/-- One cell is read. -/
theorem g_loadOne {ty : TypeId} {x : Operand} {b off : Nat} {c : Array Value} {T : TypeId} {rw : Bool} {d : TypeDesc} {v : Value} (i : Nat) (ho : o.op = .load ty x) (hx : ρ x = .pointer (some ⟨b, off, none⟩)) (hi : m[i]? = some ⟨b, c, T, rw⟩)
    (hu : P.underlying ty = some d) (hd : d.isRow = false) (hcs : c[off]? = some v) : GV P w0 S m o ρ v := by
  intro w hM
  have hc : w.cell? ⟨b, off, none⟩ = some v := by
    unfold World.cell?
    have := hM.get i hi
    simp only at this
    simp only [this]
    simpa using hcs
  have h : (execOp ρ o).run P w = .ok (.value v) w := by
    simp only [execOp, ho, hx, Sem.run_bind, run_loadVar_one hc hu hd, Result.andThen_ok]; rfl
  exact h

theorem g_field {s : TypeId} {x : Operand} {f : Nat} {u v : Value} (ho : o.op = .field s x f) (hx : ρ x = u) (hr : ∀ w, (Instr.field s u f).run P w = .ok v w) : GV P w0 S m o ρ v :=
  g_run fun w => by simp only [execOp, ho, hx, Sem.run_bind, hr w, Result.andThen_ok]; rfl

theorem g_index {t : TypeId} {x i : Operand} {u k v : Value} (ho : o.op = .index t x i) (hx : ρ x = u) (hk : ρ i = k) (hr : ∀ w, (Instr.index t u k).run P w = .ok v w) : GV P w0 S m o ρ v :=
  g_run fun w => by simp only [execOp, ho, hx, hk, Sem.run_bind, hr w, Result.andThen_ok]; rfl

theorem g_build {t : TypeId} {parts : Array (Nat × Operand)} {cells : Array Value} (ho : o.op = .build t parts) (hp : P.built t ((parts.map fun (i, x) => (i, ρ x)).toList) = some cells) : GV P w0 S m o ρ (.agg cells) :=
  g_run fun w => by simp only [execOp, ho, Sem.run_bind, run_build w t _ cells hp, Result.andThen_ok]; rfl

theorem g_extract {t : Operand} {i : Nat} {vs : Array Value} {v : Value} (ho : o.op = .extract t i) (hx : ρ t = .tuple vs) (hr : vs[i]? = some v) : GV P w0 S m o ρ v :=
  g_run fun w => by
    have : (Instr.extract (.tuple vs) i).run P w = .ok v w := by simp only [Instr.extract, hr]; rfl
    simp only [execOp, ho, hx, Sem.run_bind, this, Result.andThen_ok]; rfl

theorem g_pick {c x y : Operand} {v : Value} (b : Bool) (ho : o.op = .pick c x y) (hc : ρ c = .bool b) (hv : (if b then ρ x else ρ y) = v) : GV P w0 S m o ρ v :=
  g_run fun w => by cases b <;> simp only [execOp, ho, hc] <;> simp_all <;> rfl

theorem g_binOp {op : BinOp} {t u : TypeId} {x y : Operand} {a b v : Value} (ho : o.op = .binOp op t x y u) (hx : ρ x = a) (hy : ρ y = b) (hr : ∀ w, (do eqGuard op t x y a b; binOp op t a b : Sem Value).run P w = .ok v w) : GV P w0 S m o ρ v :=
  g_run fun w => by
    simp only [execOp, ho, hx, hy]
    have := hr w
    rw [Sem.run_bind, this]; rfl

/-- What two numbers come to, but for quotients and shifts. -/
def intV (op : BinOp) (k : IntKind) (a b : Int) : Value :=
  match op with
  | .add => .int k (k.wrap (a + b))
  | .sub => .int k (k.wrap (a - b))
  | .mul => .int k (k.wrap (a * b))
  | .and => .int k (k.wrap (BitVec.ofInt k.bits a &&& BitVec.ofInt k.bits b).toNat)
  | .or => .int k (k.wrap (BitVec.ofInt k.bits a ||| BitVec.ofInt k.bits b).toNat)
  | .xor => .int k (k.wrap (BitVec.ofInt k.bits a ^^^ BitVec.ofInt k.bits b).toNat)
  | .andNot => .int k (k.wrap (BitVec.ofInt k.bits a &&& ~~~ BitVec.ofInt k.bits b).toNat)
  | .eql => .bool (a == b)
  | .neq => .bool (a != b)
  | .lss => .bool (a < b)
  | .leq => .bool (a ≤ b)
  | .gtr => .bool (a > b)
  | .geq => .bool (a ≥ b)
  | _ => undef

def intOp : BinOp → Bool
  | .quo | .rem | .shl | .shr => false
  | _ => true

/-- Two numbers: the value as it is wanted. -/
theorem g_int {op : BinOp} {t u : TypeId} {x y : Operand} {k : IntKind} {a b : Int} {v : Value} (ho : o.op = .binOp op t x y u) (hx : ρ x = .int k a) (hy : ρ y = .int k b) (hop : intOp op = true) (hv : intV op k a b = v) : GV P w0 S m o ρ v :=
  g_binOp ho hx hy fun w => by
    subst hv
    cases op <;> first | (simp [intOp] at hop; done) | (simp [eqGuard, binOp, intV, Op.intArith, Op.intBits, Op.intCmp]; done)

theorem g_shl {t u : TypeId} {x y : Operand} {k yk : IntKind} {a c : Int} {n : Nat} (ho : o.op = .binOp .shl t x y u) (hx : ρ x = .int k a) (hy : ρ y = .int yk (n : Int)) (hv : k.wrap (a * 2 ^ (min n k.bits)) = c) : GV P w0 S m o ρ (.int k c) :=
  g_binOp ho hx hy fun w => by
    have : ¬ ((n : Int) < 0) := by omega
    subst hv
    simp [eqGuard, binOp, Op.shift, this]
theorem g_shr {t u : TypeId} {x y : Operand} {k yk : IntKind} {a c : Int} {n : Nat} (ho : o.op = .binOp .shr t x y u) (hx : ρ x = .int k a) (hy : ρ y = .int yk (n : Int)) (hv : a.fdiv (2 ^ (min n k.bits)) = c) : GV P w0 S m o ρ (.int k c) :=
  g_binOp ho hx hy fun w => by
    have : ¬ ((n : Int) < 0) := by omega
    subst hv
    simp [eqGuard, binOp, Op.shift, this]

/-- A field's address, by the struct's table. -/
theorem g_fieldAddr {s : TypeId} {x : Operand} {f : Nat} {b off : Nat} {fs : Array Field} {fld : Field} {k : Nat} (ho : o.op = .fieldAddr s x f) (hx : ρ x = .pointer (some ⟨b, off, none⟩)) (hu : P.underlying s = some (.struct fs)) (hf : fs[f]? = some fld) (hs : ∀ w, (Go.sizeOf fld.type).run P w = .ok (k + 1) w) (off' : Nat) (he : off + fld.offset = off') :
    GV P w0 S m o ρ (.pointer (some ⟨b, off', none⟩)) :=
  g_run fun w => by
    have hr : (Instr.fieldAt s (.pointer (some ⟨b, off, none⟩)) f).run P w = .ok (.pointer (some ⟨b, off', none⟩)) w := by
      subst he
      simp only [Instr.fieldAt, Sem.run_bind, run_underlying hu w, Result.andThen_ok]
      simp only [hf, Sem.run_bind, Instr.sureAddr, Sem.run_pure, Result.andThen_ok, fieldPlace, hs w]
      simp [Addr.add_mid]
    simp only [execOp, ho, hx, Sem.run_bind, hr, Result.andThen_ok]; rfl

/-- An element's address in an array. -/
theorem g_indexAddr {t elem : TypeId} {x i : Operand} {b off n sz : Nat} {kk : IntKind} {j : Int} (off' : Nat) (ho : o.op = .indexAddr t x i) (hx : ρ x = .pointer (some ⟨b, off, none⟩)) (hi : ρ i = .int kk j) (hu : P.underlying t = some (.array n elem)) (hs : ∀ w, (Go.sizeOf elem).run P w = .ok sz w) (hj : 0 ≤ j ∧ j < (n : Int)) (he : off + j.toNat * sz = off') :
    GV P w0 S m o ρ (.pointer (some ⟨b, off', none⟩)) :=
  g_run fun w => by
    have hr : (Instr.indexAt t (.pointer (some ⟨b, off, none⟩)) (.int kk j)).run P w = .ok (.pointer (some ⟨b, off', none⟩)) w := by
      subst he
      simp only [Instr.indexAt, asIntOf, Sem.run_bind, run_underlying hu w, Result.andThen_ok, Sem.run_pure, Instr.sureAddr]
      simp [hj, hs w, Result.andThen, Addr.add_mid]
    simp only [execOp, ho, hx, hi, Sem.run_bind, hr, Result.andThen_ok]; rfl

theorem g_unOp {op : UnOp} {t : TypeId} {x : Operand} {a v : Value} (ho : o.op = .unOp op t x) (hx : ρ x = a) (hr : ∀ w, (Op.unary op a).run P w = .ok v w) : GV P w0 S m o ρ v :=
  g_run fun w => by simp only [execOp, ho, hx, Sem.run_bind, hr w, Result.andThen_ok]; rfl

theorem g_not {t : TypeId} {x : Operand} (b : Bool) (ho : o.op = .unOp .not t x) (hx : ρ x = .bool b) : GV P w0 S m o ρ (.bool (!b)) :=
  g_unOp ho hx fun w => by simp [Op.unary]

def bnd (ρ : Operand → Value) (d : Nat) : Option Operand → Option Nat
  | none => some d
  | some x => match ρ x with
    | .int _ k => if 0 ≤ k then some k.toNat else none
    | _ => none

theorem run_sliceBound {x : Value} {k : IntKind} {i : Int} {y n : Nat} {c : BoundsCode} {w : World} (hx : x = .int k i) (hi : i = n) (h : n ≤ y) : (Instr.sliceBound x y c).run P w = .ok n w := by
  subst hx hi
  simp [Instr.sliceBound, asIntOf, h]

/-- An array, behind its pointer, as a slice: whole, from an index on, up to one. -/
theorem g_sliceArr {arr elem : TypeId} {x : Operand} {b n k : Nat} (ho : o.op = .slice arr x none none none) (hx : ρ x = .pointer (some ⟨b, 0, none⟩)) (ha : P.underlying arr = some (.array n elem)) (hs : ∀ w, (Go.sizeOf elem).run P w = .ok k w) :
    GV P w0 S m o ρ (.slice (some ⟨b, 0, none⟩) n n) :=
  g_run fun w => by
    have hr : (Instr.sliceAt arr (.pointer (some ⟨b, 0, none⟩)) none none none).run P w = .ok (.slice (some ⟨b, 0, none⟩) n n) w := by
      simp [Instr.sliceAt, Instr.sureAddr, Sem.run_bind, run_underlying ha w, Result.andThen_ok, Instr.sliceBounds, hs w, Addr.add]
    simp only [execOp, ho, hx, Option.map_none, Sem.run_bind, hr, Result.andThen_ok]; rfl

theorem g_sliceArrTo {arr elem : TypeId} {x y : Operand} {b n k h : Nat} {kk : IntKind} (ho : o.op = .slice arr x none (some y) none) (hx : ρ x = .pointer (some ⟨b, 0, none⟩)) (hy : ρ y = .int kk (h : Int)) (ha : P.underlying arr = some (.array n elem)) (hs : ∀ w, (Go.sizeOf elem).run P w = .ok k w) (hh : h ≤ n) :
    GV P w0 S m o ρ (.slice (some ⟨b, 0, none⟩) h n) :=
  g_run fun w => by
    have hr : (Instr.sliceAt arr (.pointer (some ⟨b, 0, none⟩)) none (some (.int kk (h : Int))) none).run P w = .ok (.slice (some ⟨b, 0, none⟩) h n) w := by
      simp [Instr.sliceAt, Instr.sureAddr, Sem.run_bind, run_underlying ha w, Result.andThen_ok, Instr.sliceBounds, run_sliceBound (P := P) (x := .int kk (h : Int)) rfl rfl hh, hs w, Addr.add]
    simp only [execOp, ho, hx, hy, Option.map_none, Option.map_some, Sem.run_bind, hr, Result.andThen_ok]; rfl

theorem g_sliceArrFrom {arr elem : TypeId} {x y : Operand} {b n k l : Nat} {kk : IntKind} (ho : o.op = .slice arr x (some y) none none) (hx : ρ x = .pointer (some ⟨b, 0, none⟩)) (hy : ρ y = .int kk (l : Int)) (ha : P.underlying arr = some (.array n elem)) (hs : ∀ w, (Go.sizeOf elem).run P w = .ok k w) (hl : l < n) (hl0 : 0 < l * k) :
    GV P w0 S m o ρ (.slice (some ⟨b, l * k, none⟩) (n - l) (n - l)) :=
  g_run fun w => by
    have hr : (Instr.sliceAt arr (.pointer (some ⟨b, 0, none⟩)) (some (.int kk (l : Int))) none none).run P w = .ok (.slice (some ⟨b, l * k, none⟩) (n - l) (n - l)) w := by
      have h1 : ¬ n = l := by omega
      have h2 : ¬ l * k = 0 := by omega
      simp only [Instr.sliceAt, Instr.sureAddr, Sem.run_bind, run_underlying ha w, Result.andThen_ok, Sem.run_pure, Instr.sliceBounds, Option.isSome_none, Bool.false_eq_true, if_false, run_sliceBound (P := P) (x := .int kk (l : Int)) rfl rfl (Nat.le_of_lt hl), hs w, Addr.add, if_neg h1, if_neg h2, Nat.zero_add]
    simp only [execOp, ho, hx, hy, Option.map_none, Option.map_some, Sem.run_bind, hr, Result.andThen_ok]; rfl

/-- A call of a named function with a body, by its contract. -/
theorem g_call {f : FuncId} {fn : Func} {as : Array Operand} {ts : Array TypeId} {vs : Array Value} {v : Value} (hc : PureP P f vs v) (ho : o.op = .call { callee := .value (.func f), args := as, argTypes := ts }) (hf : ρ (.func f) = .func (.func f) #[] #[]) (ha' : as.toList.map ρ = vs.toList)
    (hfn : P.funcs[f]? = some fn) (hng : (fn.name == "runtime.NumGoroutine") = false) (hb : fn.body.isNone = false) : GE P w0 S m o ρ v := by
  intro w _
  have ha : as.map ρ = vs := by rw [← Array.toList_inj, Array.toList_map]; exact ha'
  have hne : ¬ fn.name = "runtime.NumGoroutine" := by simpa using hng
  have hbn : ¬ fn.body = none := fun h => by rw [h] at hb; cases hb
  have h : (execOp ρ o).run P w = .ok (.enter f vs) w := by
    simp [execOp, ho, resolve, hf, ha, Deferred.ofValue, invoke, callFunc, hfn, hne, hbn, Sem.run_bind, Result.andThen]
  rw [h]
  exact ⟨rfl, hc w⟩
end

end Go.Mx
