/- Stepping a function: a region that draws its order. -/
import Derived.Test.YtbonnnakebfniaaDoorSy
namespace Go.Mx
open Go Go.RowKit

section
variable {P : Program} {ops : Array Oper} {Q : Exit → Act → World → Prop} {A : Act} {n : Nat} {ps : Puts} {w0 w : World} {S : List Nat} {m mR : List Cl} {ks : List SK} {n0 : Nat}

/-- The walk over the values, slots by name. -/
def evC (P : Program) (ops : Array Oper) (w0 : World) (S : List Nat) (mR : List Cl) (ks : List SK) (A : Act) (K : Puts → Prop) : List Nat → Puts → Prop
  | [], ps => K ps
  | i :: l, ps =>
    if (ks.getD i .alloc).isVal then
      match ops[i]? with
      | none => False
      | some o => ∃ v, ((wantedE ops A ps o = true ∧ GE P w0 S mR o (ev A ps) v) ∨
            (v = undef ∧ ∃ j want b t, o.guard = some (j, want) ∧ dstOf ops j = some t ∧ look A ps t = .bool b ∧ b ≠ want)) ∧
          evC P ops w0 S mR ks A K l (match o.dst with | some d => (d, v) :: ps | none => ps)
    else evC P ops w0 S mR ks A K l ps

theorem evA_of_evC {K : Puts → Prop} {K' : Act → Prop} (F : Facts ops ks n n0) (hn : A.tmps.size = n) (hK : ∀ ps, okB n ps = true → K ps → K' (putAll A ps)) :
    ∀ (l : List Nat) (ps : Puts), (∀ i ∈ l, i < n0) → okB n ps = true → evC P ops w0 S mR ks A K l ps → evA P ops (fun w => Mem w0 S w mR) ks K' l (putAll A ps)
  | [], ps, _, hp, h => hK ps hp h
  | i :: l, ps, hl, hp, h => by
    have hin := hl i (by simp)
    have hl' : ∀ i ∈ l, i < n0 := fun j hj => hl j (List.mem_cons_of_mem _ hj)
    simp only [evC, evA] at h ⊢
    by_cases hk : (ks.getD i .alloc).isVal = true
    · rw [if_pos hk] at h ⊢
      cases ho : ops[i]? with
      | none => simp [ho] at h
      | some o =>
        simp only [ho] at h ⊢
        obtain ⟨v, hc, h⟩ := h
        refine ⟨v, ?_, ?_⟩
        · rcases hc with ⟨hw, hg⟩ | ⟨rfl, j, want, b, t, h1, h2, h3, h4⟩
          · exact .inl ⟨wanted_of_E (okB_mem hn hp) hw, fun w hb => by rw [ev_ps hn hp]; exact hg w hb⟩
          · exact .inr ⟨unwanted_of_E (okB_mem hn hp) h1 h2 h3 h4, rfl⟩
        · cases hd : o.dst with
          | none =>
            rw [hd] at h
            exact evA_of_evC F hn hK l ps hl' hp h
          | some d =>
            rw [hd] at h
            refine evA_of_evC F hn hK l ((d, v) :: ps) hl' ?_ h
            have := F.dlt i d hin (by rw [dstOf_eq ho]; exact hd)
            unfold okB at hp ⊢
            rw [List.all_cons, hp, Bool.and_true]
            simpa using this
    · rw [if_neg hk] at h ⊢
      exact evA_of_evC F hn hK l ps hl' hp h

section
variable {K : Puts → Prop} {i : Nat} {l : List Nat} {o : Oper} {v : Value}
theorem E_call (d : Tmp) (hk : (ks.getD i .alloc).isVal = true) (ho : ops[i]? = some o) (hd : o.dst = some d) (hw : wantedE ops A ps o = true) (hg : GE P w0 S mR o (ev A ps) v)
    (h : evC P ops w0 S mR ks A K l ((d, v) :: ps)) : evC P ops w0 S mR ks A K (i :: l) ps := by
  simp only [evC]
  rw [if_pos hk]
  simp only [ho]
  exact ⟨v, .inl ⟨hw, hg⟩, by rw [hd]; exact h⟩
theorem E_val (d : Tmp) (hk : (ks.getD i .alloc).isVal = true) (ho : ops[i]? = some o) (hd : o.dst = some d) (hw : wantedE ops A ps o = true) (hg : GV P w0 S mR o (ev A ps) v)
    (h : evC P ops w0 S mR ks A K l ((d, v) :: ps)) : evC P ops w0 S mR ks A K (i :: l) ps := E_call d hk ho hd hw hg.E h
theorem E_unwanted (d j : Nat) (want b : Bool) (t : Tmp) (hk : (ks.getD i .alloc).isVal = true) (ho : ops[i]? = some o) (hd : o.dst = some d) (hg : o.guard = some (j, want)) (hj : dstOf ops j = some t)
    (hb : look A ps t = .bool b) (hne : b ≠ want) (h : evC P ops w0 S mR ks A K l ((d, undef) :: ps)) : evC P ops w0 S mR ks A K (i :: l) ps := by
  simp only [evC]
  rw [if_pos hk]
  simp only [ho]
  exact ⟨undef, .inr ⟨rfl, j, want, b, t, hg, hj, hb, hne⟩, by rw [hd]; exact h⟩
theorem E_skip (hk : (ks.getD i .alloc).isVal = false) (h : evC P ops w0 S mR ks A K l ps) : evC P ops w0 S mR ks A K (i :: l) ps := by
  simp only [evC]
  rw [if_neg (by rw [hk]; exact Bool.false_ne_true)]
  exact h
theorem E_nil (h : K ps) : evC P ops w0 S mR ks A K [] ps := h
end

/-- A block that the region makes: which operation, what it holds at first and at last, of what type. -/
structure Al where
  i : Nat
  c0 : Array Value
  c1 : Array Value
  T : TypeId

def alOf (L : List Al) (i : Nat) : Al := (L.find? fun r => Nat.beq r.i i).getD ⟨i, #[], #[], 0⟩

def AllocRuns (P : Program) (ρ : Operand → Value) (o : Oper) (c : Array Value) (T : TypeId) : Prop :=
  ∀ w, (execOp ρ o).run P w = .ok (.value (.pointer (some ⟨w.heap.size, 0, none⟩))) (w.alloc (.cells c T (0, 0)))
def StoreRuns (P : Program) (ρ : Operand → Value) (o : Oper) (b : Nat) (c c' : Array Value) (T : TypeId) : Prop :=
  ∀ w, w.heap[b]? = some (.cells c T (0, 0)) → (execOp ρ o).run P w = .ok .skip { w with heap := w.heap.setIfInBounds b (.cells c' T (0, 0)) }

theorem runs_alloc {o : Oper} {ρ : Operand → Value} {T : TypeId} {z : Value} {cs : Array Value} (ho : o.op = .alloc T) (hz : ∀ w, (zeroValue T).run P w = .ok z w) (hcs : z.cells = cs) : AllocRuns P ρ o cs T := fun w => by
  simp only [execOp, ho, Instr.alloc, Sem.run_bind, hz w, Result.andThen_ok, ← hcs]; rfl
theorem runs_box {o : Oper} {ρ : Operand → Value} {T : TypeId} {x : Operand} {v : Value} {cs : Array Value} (ho : o.op = .box T x) (hx : ρ x = v) (hcs : v.cells = cs) : AllocRuns P ρ o cs T := fun w => by
  simp only [execOp, ho, hx, ← hcs]; rfl
theorem runs_store {o : Oper} {ρ : Operand → Value} {ty : TypeId} {x y : Operand} {b off : Nat} {c c' : Array Value} {T : TypeId} {v : Value} (ho : o.op = .store ty x y) (hx : ρ x = .pointer (some ⟨b, off, none⟩)) (hy : ρ y = v) (hs : SetsTo P ty v c off c') : StoreRuns P ρ o b c c' T :=
  fun _ hh => run_store ho hx hy hs hh

/-- What is owed of the operations that are no values. -/
def evM (P : Program) (ops : Array Oper) (ks : List SK) (L : List Al) (pb : Nat → Nat) (A : Act) (ps : Puts) : List Nat → Prop
  | [] => True
  | i :: l => (match ks.getD i .val with
      | .val => True
      | .copy _ => True
      | .alloc => ∃ o, ops[i]? = some o ∧ AllocRuns P (ev A ps) o (alOf L i).c0 (alOf L i).T
      | .store j => ∃ o d, ops[i]? = some o ∧ dstOf ops j = some d ∧ ∀ b, StoreRuns P (ev A ((d, .pointer (some ⟨b, 0, none⟩)) :: ps)) o b (alOf L j).c0 (alOf L j).c1 (alOf L j).T
      | .put => ∃ o, ops[i]? = some o ∧ StoreRuns P (ev A ps) o (pb i) (alOf L i).c0 (alOf L i).c1 (alOf L i).T) ∧ evM P ops ks L pb A ps l

theorem evM_at {L : List Al} {pb : Nat → Nat} {ps : Puts} : ∀ {l : List Nat}, evM P ops ks L pb A ps l → ∀ i ∈ l, (match ks.getD i .val with
      | .val => True
      | .copy _ => True
      | .alloc => ∃ o, ops[i]? = some o ∧ AllocRuns P (ev A ps) o (alOf L i).c0 (alOf L i).T
      | .store j => ∃ o d, ops[i]? = some o ∧ dstOf ops j = some d ∧ ∀ b, StoreRuns P (ev A ((d, .pointer (some ⟨b, 0, none⟩)) :: ps)) o b (alOf L j).c0 (alOf L j).c1 (alOf L j).T
      | .put => ∃ o, ops[i]? = some o ∧ StoreRuns P (ev A ps) o (pb i) (alOf L i).c0 (alOf L i).c1 (alOf L i).T)
  | [], _, i, hi => by cases hi
  | k :: l, h, i, hi => by
    rcases List.mem_cons.1 hi with rfl | hi
    · exact h.1
    · exact evM_at h.2 i hi

section
variable {L : List Al} {pb : Nat → Nat} {i : Nat} {l : List Nat} {o : Oper}
theorem M_val (hk : ks.getD i .val = .val) (h : evM P ops ks L pb A ps l) : evM P ops ks L pb A ps (i :: l) := by
  refine ⟨?_, h⟩; rw [hk]; trivial
theorem M_alloc (hk : ks.getD i .val = .alloc) (ho : ops[i]? = some o) (hr : AllocRuns P (ev A ps) o (alOf L i).c0 (alOf L i).T) (h : evM P ops ks L pb A ps l) : evM P ops ks L pb A ps (i :: l) := by
  refine ⟨?_, h⟩; rw [hk]; exact ⟨o, ho, hr⟩
theorem M_store (j : Nat) (d : Tmp) (hk : ks.getD i .val = .store j) (ho : ops[i]? = some o) (hd : dstOf ops j = some d) (hr : ∀ b, StoreRuns P (ev A ((d, .pointer (some ⟨b, 0, none⟩)) :: ps)) o b (alOf L j).c0 (alOf L j).c1 (alOf L j).T) (h : evM P ops ks L pb A ps l) : evM P ops ks L pb A ps (i :: l) := by
  refine ⟨?_, h⟩; rw [hk]; exact ⟨o, d, ho, hd, hr⟩
theorem M_put (hk : ks.getD i .val = .put) (ho : ops[i]? = some o) (hr : StoreRuns P (ev A ps) o (pb i) (alOf L i).c0 (alOf L i).c1 (alOf L i).T) (h : evM P ops ks L pb A ps l) : evM P ops ks L pb A ps (i :: l) := by
  refine ⟨?_, h⟩; rw [hk]; exact ⟨o, ho, hr⟩
theorem M_nil : evM P ops ks L pb A ps [] := trivial
end

/-- The frame at the end. -/
def finPuts (ops : Array Oper) (ks : List SK) (β : Nat → Nat) : List Nat → Puts → Puts
  | [], ps => ps
  | i :: l, ps => finPuts ops ks β l (match ks.getD i .val, dstOf ops i with
      | .alloc, some d => (d, .pointer (some ⟨β i, 0, none⟩)) :: ps
      | .copy j, some d => (d, .pointer (some ⟨β j, 0, none⟩)) :: ps
      | _, _ => ps)

theorem fold_finPuts (β : Nat → Nat) : ∀ (l : List Nat) (ps : Puts), l.foldl (rput ops ks β) (putAll A ps) = putAll A (finPuts ops ks β l ps)
  | [], ps => rfl
  | i :: l, ps => by
    rw [List.foldl_cons, finPuts, ← fold_finPuts β l]
    congr 1
    unfold rput
    cases ks.getD i .val <;> cases dstOf ops i <;> rfl

/-- The slots that hold new blocks' addresses: by operation and slot. -/
def addrs (ops : Array Oper) (ks : List SK) (l : List Nat) : List (Nat × Nat) := l.filterMap fun i => match ks.getD i .val, dstOf ops i with
  | .alloc, some d => some (i, d)
  | .copy j, some d => some (j, d)
  | _, _ => none

def addPuts (β : Nat → Nat) : List (Nat × Nat) → Puts → Puts
  | [], ps => ps
  | (i, d) :: l, ps => addPuts β l ((d, .pointer (some ⟨β i, 0, none⟩)) :: ps)

theorem finPuts_eq (β : Nat → Nat) : ∀ (l : List Nat) (ps : Puts), finPuts ops ks β l ps = addPuts β (addrs ops ks l) ps
  | [], ps => rfl
  | i :: l, ps => by
    rw [finPuts, finPuts_eq β l]
    unfold addrs
    rw [List.filterMap_cons]
    cases ks.getD i .val <;> cases dstOf ops i <;> rfl

/-- The new blocks at the end. -/
def newCls (ks : List SK) (L : List Al) (β : Nat → Nat) : List Cl := L.map fun r => ⟨β r.i, if stored ks (fun _ => true) r.i then r.c1 else r.c0, r.T, true⟩

def okL (ks : List SK) (n0 : Nat) : List Al → Bool
  | [] => true
  | r :: L => Nat.blt r.i n0 && decide (ks.getD r.i .val = .alloc) && (L.all fun s => !Nat.beq s.i r.i) && okL ks n0 L

theorem okL_at : ∀ L : List Al, okL ks n0 L = true → ∀ s ∈ L, s.i < n0 ∧ ks.getD s.i .val = .alloc
  | [], _, _, hs => by cases hs
  | t :: L, h, s, hs => by
    simp only [okL, Bool.and_eq_true, decide_eq_true_eq] at h
    rcases List.mem_cons.1 hs with rfl | hs
    · exact ⟨by simpa using h.1.1.1, h.1.1.2⟩
    · exact okL_at L h.2 s hs

theorem mem_newCls {L0 : List Al} {β : Nat → Nat} {w' : World} {N0 : Nat} (hM : Mem w0 S w' m) (hN : w0.heap.size ≤ N0) (hlt : ∀ c ∈ m, c.b < N0)
    (hf : ∀ i, i < n0 → ks.getD i .val = .alloc → N0 ≤ β i ∧ β i < w'.heap.size ∧ w'.heap[β i]? = some (if stored ks (fun _ => true) i then .cells (alOf L0 i).c1 (alOf L0 i).T (0, 0) else .cells (alOf L0 i).c0 (alOf L0 i).T (0, 0)))
    (hi : ∀ i j, i < n0 → j < n0 → ks.getD i .val = .alloc → ks.getD j .val = .alloc → β i = β j → i = j) :
    ∀ L : List Al, okL ks n0 L = true → (∀ r ∈ L, alOf L0 r.i = r) → Mem w0 S w' (newCls ks L β ++ m)
  | [], _, _ => hM
  | r :: L, hL, hr => by
    simp only [okL, Bool.and_eq_true, decide_eq_true_eq, List.all_eq_true, Bool.not_eq_true'] at hL
    obtain ⟨⟨⟨h1, h2⟩, h3⟩, h4⟩ := hL
    have h1' : r.i < n0 := by simpa using h1
    have ih := mem_newCls hM hN hlt hf hi L h4 fun r hr' => hr r (List.mem_cons_of_mem _ hr')
    obtain ⟨g1, g2, g3⟩ := hf r.i h1' h2
    rw [hr r (by simp)] at g3
    refine ih.add (b := β r.i) (c := if stored ks (fun _ => true) r.i then r.c1 else r.c0) (T := r.T) ?_ (Nat.le_trans hN g1) ?_
    · rw [g3]; split <;> rfl
    · intro hm
      obtain ⟨x, hx, he⟩ := List.mem_map.1 hm
      rcases List.mem_append.1 hx with hx | hx
      · obtain ⟨s, hs, rfl⟩ := List.mem_map.1 hx
        have hne := h3 s hs
        have h4' : okL ks n0 L = true := h4
        have hs' : s.i < n0 ∧ ks.getD s.i .val = .alloc := by
          exact okL_at L h4' s hs
        have := hi s.i r.i hs'.1 h1' hs'.2 h2 he
        rw [this] at hne
        simp at hne
      · have := hlt x hx
        omega

theorem okL_alOf {n0 : Nat} : ∀ L : List Al, okL ks n0 L = true → ∀ r ∈ L, alOf L r.i = r
  | [], _, r, hr => by cases hr
  | s :: L, hL, r, hr => by
    simp only [okL, Bool.and_eq_true, decide_eq_true_eq, List.all_eq_true, Bool.not_eq_true'] at hL
    obtain ⟨⟨⟨h1, h2⟩, h3⟩, h4⟩ := hL
    unfold alOf
    rcases List.mem_cons.1 hr with rfl | hr
    · simp
    · rw [List.find?_cons]
      have h5 := h3 r hr
      have h6 : Nat.beq s.i r.i = false := by
        cases hc : Nat.beq s.i r.i with
        | false => rfl
        | true =>
          have := Nat.eq_of_beq_eq_true hc
          rw [this] at h5
          simp at h5
      rw [h6]
      exact okL_alOf L h4 r hr

/-- **A region that draws its order**: no elder block is written in it but in its forced tail. -/
theorem R_any {id : Nat} (ks : List SK) (n0 : Nat) (L : List Al) (prs : List (Nat × Nat)) (hn : A.tmps.size = n) (hM : Mem w0 S w m) (hb : okB n ps = true) (hm : P.follows .mixedOrders = true)
    (hok : okMix ops ks n n0 (anc ops.toList []) = true) (hL : okL ks n0 L = true) (hnp : (ks.all fun k => !decide (k = .put)) = true) (hpr : addrs ops ks (List.range n0) = prs)
    (hev : evC P ops w0 S m ks A (fun qs => evM P ops ks L (fun _ => 0) A qs (List.range n0) ∧ ∀ (β : Nat → Nat) (w' : World), Mem w0 S w' (newCls ks L β ++ m) → wpList P ops Q (ops.toList.drop n0) (putAll A (addPuts β prs qs)) w') (List.range n0) ps) :
    (Code.region id ops true).wp P Q (putAll A ps) w := by
  have hok' : okMix ops ks (putAll A ps).tmps.size n0 (anc ops.toList []) = true := by rw [putAll_size, hn]; exact hok
  have F : Facts ops ks n n0 := facts_of hok
  have np : ∀ i, ks.getD i .val ≠ .put := by
    intro i hi
    rw [List.getD_eq_getElem?_getD] at hi
    cases hk : ks[i]? with
    | none => rw [hk] at hi; cases hi
    | some k =>
      rw [hk] at hi
      have := List.all_eq_true.1 hnp k (List.mem_of_getElem? hk)
      simp only [Option.getD_some] at hi
      rw [hi] at this
      simp at this
  refine wp_region_mix ks n0 (fun w' => Mem w0 S w' m) (fun _ => 0) (kind_mem hM (List.Sublist.refl m) (fun i _ h => absurd h (np i)) (fun i j _ _ h => absurd h (np i))) hM hm hok' ?_
  rw [List.range_eq_range'] at hev
  refine evA_of_evC (n0 := n0) F hn (fun qs hq h => ?_) _ ps (fun i hi => by simpa using (List.mem_range'_1.1 hi).2) hb hev
  obtain ⟨h1, h2⟩ := h
  refine ⟨fun i => .cells (alOf L i).c0 (alOf L i).T (0, 0), fun i => .cells (alOf L i).c1 (alOf L i).T (0, 0), ⟨?_, ?_, ?_⟩, fun i _ h => absurd h (np i), fun β w' hR _ hf hi => ?_⟩
  · intro i o _ _ hk; exact absurd hk (np i)
  · intro i o hi ho hk w _
    have := evM_at h1 i (by rw [← List.range_eq_range']; exact List.mem_range.2 hi)
    rw [hk] at this
    obtain ⟨o', ho', hr⟩ := this
    obtain rfl : o = o' := Option.some.inj (ho.symm.trans ho')
    rw [ev_ps hn hq]
    exact hr w
  · intro i o j hi ho hk d hd b w _ _ hh
    have := evM_at h1 i (by rw [← List.range_eq_range']; exact List.mem_range.2 hi)
    rw [hk] at this
    obtain ⟨o', d', ho', hd', hr⟩ := this
    obtain rfl : o = o' := Option.some.inj (ho.symm.trans ho')
    obtain rfl : d = d' := Option.some.inj (hd.symm.trans hd')
    have hj : j < n0 := by
      have := F.store i o j hi ho (by rw [getD_kind F hi _ .val]; exact hk)
      omega
    have hq' : okB n ((d, .pointer (some ⟨b, 0, none⟩)) :: qs) = true := by
      have := F.dlt j d hj hd
      unfold okB at hq ⊢
      rw [List.all_cons, hq, Bool.and_true]
      simpa using this
    have he := ev_ps hn hq'
    rw [putAll] at he
    rw [he]
    exact hr b w hh
  · have hM' := mem_newCls hR hM.size (fun c hc => hM.lt hc) hf hi L hL (okL_alOf L hL)
    have h3 := h2 β w' hM'
    rw [← hpr, ← finPuts_eq, ← fold_finPuts] at h3
    have hlen : (ops.toList.drop n0).length = ops.size - n0 := by simp
    have e := wpOps_eq_wpList (P := P) (ops := ops) (Q := Q) (ops.toList.drop n0) n0 (fun j => by rw [List.getElem?_drop]; simp)
    rw [hlen] at e
    rw [e]
    exact h3

theorem mem_eraseIdx_of {α : Type} {l : List α} {j i : Nat} {x : α} (h : l[i]? = some x) (hne : i ≠ j) : x ∈ l.eraseIdx j := List.mem_eraseIdx_iff_getElem?.2 ⟨i, hne, h⟩

/-- The same, where operation i0 writes elder block j0 among the others. -/
theorem R_put {id : Nat} (ks : List SK) (n0 : Nat) (L : List Al) (prs : List (Nat × Nat)) (i0 j0 : Nat) {x0 : Cl} (c1 : Array Value) (hn : A.tmps.size = n) (hM : Mem w0 S w m) (hb : okB n ps = true) (hm : P.follows .mixedOrders = true)
    (hok : okMix ops ks n n0 (anc ops.toList []) = true) (hL : okL ks n0 L = true) (hnp : ((List.range n0).all fun i => Nat.beq i i0 || !decide (ks.getD i .val = .put)) = true) (hk0 : ks.getD i0 .val = .put) (hi0 : i0 < n0) (hpr : addrs ops ks (List.range n0) = prs)
    (hj : m[j0]? = some x0) (hrw : x0.rw = true)
    (hev : evC P ops w0 S (m.eraseIdx j0) ks A (fun qs => evM P ops ks (⟨i0, x0.c, c1, x0.T⟩ :: L) (fun _ => x0.b) A qs (List.range n0) ∧ ∀ (β : Nat → Nat) (w' : World), Mem w0 S w' (newCls ks L β ++ m.set j0 ⟨x0.b, c1, x0.T, true⟩) → wpList P ops Q (ops.toList.drop n0) (putAll A (addPuts β prs qs)) w') (List.range n0) ps) :
    (Code.region id ops true).wp P Q (putAll A ps) w := by
  have hok' : okMix ops ks (putAll A ps).tmps.size n0 (anc ops.toList []) = true := by rw [putAll_size, hn]; exact hok
  have F : Facts ops ks n n0 := facts_of hok
  have hx0 := List.mem_of_getElem? hj
  have np : ∀ i, i < n0 → ks.getD i .val = .put → i = i0 := by
    intro i hi hk
    have := List.all_eq_true.1 hnp i (List.mem_range.2 hi)
    rw [hk] at this
    simpa using this
  have hsub : (m.eraseIdx j0).Sublist m := List.eraseIdx_sublist _ _
  have hnot : x0.b ∉ (m.eraseIdx j0).map Cl.b := by
    intro h
    obtain ⟨y, hy, he⟩ := List.mem_map.1 h
    obtain ⟨i, hij, hi⟩ := List.mem_eraseIdx_iff_getElem?.1 hy
    exact hM.ne hi hj hij he
  have hal0 : alOf (⟨i0, x0.c, c1, x0.T⟩ :: L) i0 = ⟨i0, x0.c, c1, x0.T⟩ := by simp [alOf]
  have hal : ∀ r ∈ L, alOf (⟨i0, x0.c, c1, x0.T⟩ :: L) r.i = r := by
    intro r hr
    have h1 := okL_alOf L hL r hr
    have h2 := (okL_at L hL r hr).2
    have h3 : Nat.beq i0 r.i = false := by
      cases hc : Nat.beq i0 r.i with
      | false => rfl
      | true =>
        have := Nat.eq_of_beq_eq_true hc
        rw [← this, hk0] at h2
        cases h2
    unfold alOf at h1 ⊢
    rw [List.find?_cons, h3]
    exact h1
  have hMR := hM.sub _ hsub
  refine wp_region_mix ks n0 (fun w' => Mem w0 S w' (m.eraseIdx j0)) (fun _ => x0.b) (kind_mem hM hsub (fun i _ _ => ⟨x0, hx0, rfl, hrw, hnot⟩) (fun i j hi hj h1 h2 _ => (np i hi h1).trans (np j hj h2).symm)) hMR hm hok' ?_
  rw [List.range_eq_range'] at hev
  refine evA_of_evC (n0 := n0) F hn (fun qs hq h => ?_) _ ps (fun i hi => by simpa using (List.mem_range'_1.1 hi).2) hb hev
  obtain ⟨h1, h2⟩ := h
  refine ⟨fun i => .cells (alOf (⟨i0, x0.c, c1, x0.T⟩ :: L) i).c0 (alOf (⟨i0, x0.c, c1, x0.T⟩ :: L) i).T (0, 0), fun i => .cells (alOf (⟨i0, x0.c, c1, x0.T⟩ :: L) i).c1 (alOf (⟨i0, x0.c, c1, x0.T⟩ :: L) i).T (0, 0), ⟨?_, ?_, ?_⟩, fun i hi hk => ?_, fun β w' hR hpt hf hi => ?_⟩
  · intro i o hi ho hk w _ hh
    have := evM_at h1 i (by rw [← List.range_eq_range']; exact List.mem_range.2 hi)
    rw [hk] at this
    obtain ⟨o', ho', hr⟩ := this
    obtain rfl : o = o' := Option.some.inj (ho.symm.trans ho')
    rw [ev_ps hn hq]
    exact hr w hh
  · intro i o hi ho hk w _
    have := evM_at h1 i (by rw [← List.range_eq_range']; exact List.mem_range.2 hi)
    rw [hk] at this
    obtain ⟨o', ho', hr⟩ := this
    obtain rfl : o = o' := Option.some.inj (ho.symm.trans ho')
    rw [ev_ps hn hq]
    exact hr w
  · intro i o j hi ho hk d hd b w _ _ hh
    have := evM_at h1 i (by rw [← List.range_eq_range']; exact List.mem_range.2 hi)
    rw [hk] at this
    obtain ⟨o', d', ho', hd', hr⟩ := this
    obtain rfl : o = o' := Option.some.inj (ho.symm.trans ho')
    obtain rfl : d = d' := Option.some.inj (hd.symm.trans hd')
    have hj : j < n0 := by
      have := F.store i o j hi ho (by rw [getD_kind F hi _ .val]; exact hk)
      omega
    have hq' : okB n ((d, .pointer (some ⟨b, 0, none⟩)) :: qs) = true := by
      have := F.dlt j d hj hd
      unfold okB at hq ⊢
      rw [List.all_cons, hq, Bool.and_true]
      simpa using this
    have he := ev_ps hn hq'
    rw [putAll] at he
    rw [he]
    exact hr b w hh
  · obtain rfl := np i hi hk
    show _ = some (Obj.cells (alOf (⟨i, x0.c, c1, x0.T⟩ :: L) i).c0 (alOf (⟨i, x0.c, c1, x0.T⟩ :: L) i).T (0, 0))
    rw [hal0]
    exact hM.get j0 hj
  · have hpt' := hpt i0 hi0 hk0
    simp only [hal0] at hpt'
    have hMs : Mem w0 S w' (m.set j0 ⟨x0.b, c1, x0.T, true⟩) := by
      refine ⟨fun y hy => ?_, ?_, fun y hy hyr => ?_, hR.keep, hR.size, hR.os, hR.tape, hR.output⟩
      · rcases mem_set_cases hy with rfl | ⟨i, hij, hi⟩
        · exact hpt'
        · exact hR.at_ y (mem_eraseIdx_of hi hij)
      · rw [map_set_b (y := ⟨x0.b, c1, x0.T, true⟩) hj rfl]; exact hM.nd
      · rcases mem_set_cases hy with rfl | ⟨i, hij, hi⟩
        · exact hM.own x0 hx0 hrw
        · exact hM.own y (List.mem_of_getElem? hi) hyr
    have hlt : ∀ c ∈ m.set j0 ⟨x0.b, c1, x0.T, true⟩, c.b < w.heap.size := by
      intro c hc
      rcases mem_set_cases hc with rfl | ⟨i, _, hi⟩
      · have := hM.lt hx0
        exact this
      · exact hM.lt (List.mem_of_getElem? hi)
    have hM' := mem_newCls hMs hM.size hlt hf hi L hL hal
    have h3 := h2 β w' hM'
    rw [← hpr, ← finPuts_eq, ← fold_finPuts] at h3
    have hlen : (ops.toList.drop n0).length = ops.size - n0 := by simp
    have e := wpOps_eq_wpList (P := P) (ops := ops) (Q := Q) (ops.toList.drop n0) n0 (fun j => by rw [List.getElem?_drop]; simp)
    rw [hlen] at e
    rw [e]
    exact h3

end
end Go.Mx
