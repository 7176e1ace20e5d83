/- A law for regions that draw their order: operations that are values in every world that agrees below, blocks made, filled and handed on in any order, and a forced tail. -/
import Derived.Orders
import Derived.Still
import Derived.StillTail
import Derived.Below
import Derived.Laws.World
namespace Go.Mix
open Go Go.RowKit

/-- What an operation of a region is: one that reckons, reads or calls (val); one that makes a block (alloc); one that hands on such a block's address (copy); one that fills it (store). -/
inductive SK where
  | val | alloc | copy (j : Nat) | store (j : Nat)
  deriving DecidableEq, Repr, Inhabited

def SK.isVal : SK → Bool | .val => true | _ => false

section
variable {P : Program} {ops : Array Oper} {Q : Exit → Act → World → Prop}

def gUpon (P : Program) (w : World) (v : Value) : Result Next → Prop
  | .ok (.value u) w' => w' = w ∧ u = v
  | .ok .skip w' => w' = w ∧ v = undef
  | .ok (.enter f args) w' => w' = w ∧ Calls P f args w (fun e w'' => e = .returned v ∧ Below w.heap.size w w'')
  | _ => False

/-- The value, whatever the world that agrees with w0 below: and what is there stays. -/
def Gives (P : Program) (w0 : World) (o : Oper) (a : Act) (v : Value) : Prop :=
  ∀ w, Below w0.heap.size w0 w → gUpon P w v ((execOp a.eval o).run P w)

/-- An operation that is a value comes to it; or its guard says no. -/
def Comes1 (P : Program) (ops : Array Oper) (w0 : World) (o : Oper) (a : Act) (v : Value) : Prop :=
  (Region.wanted o (yielded ops a.tmps) = true ∧ Gives P w0 o a v) ∨ (Region.wanted o (yielded ops a.tmps) = false ∧ v = undef)

/-- The walk over the operations that are values, in the text's order. -/
def evA (P : Program) (ops : Array Oper) (w0 : World) (ks : List SK) (K : Act → Prop) : List Nat → Act → Prop
  | [], a => K a
  | i :: l, a =>
    if (ks.getD i .alloc).isVal then
      match ops[i]? with
      | none => False
      | some o => ∃ v, Comes1 P ops w0 o a v ∧ evA P ops w0 ks K l (a.put o.dst v)
    else evA P ops w0 ks K l a

def dstOf (ops : Array Oper) (i : Nat) : Option Tmp := (ops[i]?).bind (·.dst)

def force (m : Nat) (k : Nat → List Nat) : List Nat := match m with
  | 0 => k 0
  | n + 1 => k (n + 1)
theorem force_eq (m : Nat) (k : Nat → List Nat) : force m k = k m := by cases m <;> rfl

def anc1 (o : Oper) (acc : List Nat) : Nat := o.after.toList.foldl (fun s e => if Region.binds .any e then s ||| (2 ^ e.on ||| acc.getD e.on 0) else s) 0

/-- Of each operation those that come before it, as a number's bits. -/
def anc : List Oper → List Nat → List Nat
  | [], acc => acc
  | o :: l, acc => force (anc1 o acc) fun m => anc l (acc ++ [m])

theorem anc1_bit (o : Oper) (acc : List Nat) (j : Nat) (h : (anc1 o acc).testBit j = true) : ∃ e ∈ o.after, Region.binds .any e = true ∧ (e.on = j ∨ (acc.getD e.on 0).testBit j = true) := by
  unfold anc1 at h
  have key : ∀ (l : List Edge) (s : Nat), (l.foldl (fun s e => if Region.binds .any e then s ||| (2 ^ e.on ||| acc.getD e.on 0) else s) s).testBit j = true →
      s.testBit j = true ∨ ∃ e ∈ l, Region.binds .any e = true ∧ (e.on = j ∨ (acc.getD e.on 0).testBit j = true) := by
    intro l
    induction l with
    | nil => intro s h; exact .inl h
    | cons e l ih =>
      intro s h
      simp only [List.foldl_cons] at h
      rcases ih _ h with h1 | ⟨e', he', h2⟩
      · by_cases hb : Region.binds .any e = true
        · rw [if_pos hb, Nat.testBit_or, Nat.testBit_or, Bool.or_eq_true, Bool.or_eq_true] at h1
          rcases h1 with h1 | h1 | h1
          · exact .inl h1
          · rw [Nat.testBit_two_pow] at h1
            exact .inr ⟨e, by simp, hb, .inl (by simpa using h1)⟩
          · exact .inr ⟨e, by simp, hb, .inr h1⟩
        · rw [if_neg hb] at h1; exact .inl h1
      · exact .inr ⟨e', List.mem_cons_of_mem _ he', h2⟩
  rcases key o.after.toList 0 h with h1 | ⟨e, he, h2⟩
  · simp at h1
  · exact ⟨e, by simpa using he, h2⟩

/-- A set that is closed under edges holds all that come before its own. -/
theorem anc_closed (S : Nat → Prop) : ∀ (l : List Oper) (acc : List Nat) (pre : List Oper), acc.length = pre.length →
    (∀ i o, (pre ++ l)[i]? = some o → S i → ∀ e ∈ o.after, Region.binds .any e = true → S e.on) →
    (∀ i j, i < acc.length → (acc.getD i 0).testBit j = true → S i → S j) →
    ∀ i j, ((anc l acc).getD i 0).testBit j = true → S i → S j
  | [], acc, pre, hlen, _, hacc => by
    intro i j h hs
    by_cases hi : i < acc.length
    · exact hacc i j hi h hs
    · simp only [anc] at h
      rw [List.getD_eq_getElem?_getD, List.getElem?_eq_none (by omega)] at h
      simp at h
  | o :: l, acc, pre, hlen, hcl, hacc => by
    simp only [anc, force_eq]
    refine anc_closed S l (acc ++ [anc1 o acc]) (pre ++ [o]) (by simp [hlen]) (by simpa using hcl) ?_
    intro i j hi h hs
    by_cases hlt : i < acc.length
    · rw [List.getD_eq_getElem?_getD, List.getElem?_append_left hlt, ← List.getD_eq_getElem?_getD] at h
      exact hacc i j hlt h hs
    · have hie : i = acc.length := by simp at hi; omega
      subst hie
      rw [List.getD_eq_getElem?_getD, List.getElem?_append_right (Nat.le_refl _)] at h
      simp at h
      obtain ⟨e, he, hb, h1⟩ := anc1_bit o acc j h
      have hon : S e.on := hcl acc.length o (by rw [hlen]; simp) hs e he hb
      rcases h1 with h1 | h1
      · exact h1 ▸ hon
      · by_cases hlt2 : e.on < acc.length
        · exact hacc e.on j hlt2 h1 hon
        · rw [List.getD_eq_getElem?_getD, List.getElem?_eq_none (by omega)] at h1
          simp at h1

def isMoveOf (op : Op) (d : Option Tmp) : Bool := match op, d with
  | .move (.tmp t), some d => t == d
  | .assign (.tmp t), some d => t == d
  | _, _ => false

/-- What is asked of the region, for the kernel to reckon: n0 operations in any order, the others behind them, one by one. -/
def okMix (ops : Array Oper) (ks : List SK) (n n0 : Nat) (b : List Nat) : Bool :=
  let r : Nat → Nat → Bool := fun i j => (b.getD i 0).testBit j
  let idx := List.range ops.size
  decide (n0 ≤ ops.size) && decide (ks.length = n0) &&
  idx.all fun i =>
    match ops[i]? with
    | none => false
    | some o =>
      (o.after.all fun e => !Region.binds .any e || decide (e.on < i)) &&
      (if n0 ≤ i then idx.all fun j => decide (i ≤ j) || r i j else
      (match o.dst with | some d => decide (d < n) && idx.all (fun j => decide (n0 ≤ j) || decide (j = i) || !(dstOf ops j == some d)) | none => true) &&
      (match o.op with | .select .. => false | _ => true) &&
      (match ks.getD i .alloc with
       | .val => (o.looksAt ops).all fun t => idx.all fun j => decide (n0 ≤ j) || !(dstOf ops j == some t) || ((ks.getD j .alloc).isVal && r i j && decide (j < i)) || (r j i && decide (i < j))
       | .alloc => o.guard.isNone && o.dst.isSome && (o.looksAt ops).all fun t => idx.all fun k => decide (n0 ≤ k) || !(dstOf ops k == some t) || ((ks.getD k .alloc).isVal && r i k)
       | .copy j => o.guard.isNone && isMoveOf o.op (dstOf ops j) && decide (ks.getD j .val = .alloc) && r i j && decide (j < i)
       | .store j => o.guard.isNone && o.dst.isNone && decide (ks.getD j .val = .alloc) && r i j && decide (j < i) && idx.all (fun k => decide (k = i) || !decide (ks.getD k .val = .store j)) &&
          (o.looksAt ops).all fun t => idx.all fun k => decide (n0 ≤ k) || !(dstOf ops k == some t) || ((ks.getD k .alloc).isVal && r i k) || decide (k = j)))

/-- Who writes a slot. -/
def writer (ops : Array Oper) (n0 : Nat) (t : Tmp) : Option Nat := (List.range n0).find? fun i => dstOf ops i == some t

/-- What a slot holds when these are through. -/
def slot (ops : Array Oper) (ks : List SK) (n0 : Nat) (a0 aA : Act) (β : Nat → Nat) (S : Nat → Bool) (t : Tmp) : Value :=
  match writer ops n0 t with
  | some j => if S j then (match ks.getD j .val with
      | .val => aA.tmps.getD t undef
      | .alloc => .pointer (some ⟨β j, 0, none⟩)
      | .copy k => .pointer (some ⟨β k, 0, none⟩)
      | .store _ => undef) else a0.tmps.getD t undef
  | none => a0.tmps.getD t undef

def stored (ks : List SK) (S : Nat → Bool) (i : Nat) : Bool := (List.range ks.length).any fun j => decide (ks.getD j .val = .store i) && S j

structure Inv (ops : Array Oper) (ks : List SK) (n0 : Nat) (w0 : World) (a0 aA : Act) (obj fin : Nat → Obj) (β : Nat → Nat) (S : Nat → Bool) (a : Act) (w : World) : Prop where
  asz : a.tmps.size = a0.tmps.size
  adf : a.defers = a0.defers
  at_ : ∀ t, a.tmps.getD t undef = slot ops ks n0 a0 aA β S t
  low : Below w0.heap.size w0 w
  fresh : ∀ i, i < n0 → ks.getD i .val = .alloc → S i = true → w0.heap.size ≤ β i ∧ β i < w.heap.size ∧ w.heap[β i]? = some (if stored ks S i then fin i else obj i)
  inj : ∀ i j, i < n0 → j < n0 → ks.getD i .val = .alloc → ks.getD j .val = .alloc → S i = true → S j = true → β i = β j → i = j

theorem getD_put (a : Act) (d : Option Tmp) (v : Value) (t : Tmp) (h : ∀ x, d = some x → x < a.tmps.size) : (a.put d v).tmps.getD t undef = if d = some t then v else a.tmps.getD t undef := by
  cases d with
  | none => simp [Act.put]
  | some x =>
    have hx := h x rfl
    simp only [Act.put, Option.some.injEq]
    by_cases hxt : x = t
    · subst hxt; simp [hx]
    · rw [if_neg hxt]; simp [Array.getElem?_setIfInBounds_ne hxt]

theorem put_size (a : Act) (d : Option Tmp) (v : Value) : (a.put d v).tmps.size = a.tmps.size := by cases d <;> simp [Act.put]
theorem put_defers' (a : Act) (d : Option Tmp) (v : Value) : (a.put d v).defers = a.defers := by cases d <;> rfl

theorem writer_some {n0 : Nat} {t : Tmp} {i : Nat} (h : writer ops n0 t = some i) : i < n0 ∧ dstOf ops i = some t := by
  unfold writer at h
  have h1 := List.find?_some h
  have h2 := List.mem_of_find?_eq_some h
  exact ⟨List.mem_range.1 h2, by simpa using h1⟩

theorem writer_none {n0 : Nat} {t : Tmp} (h : writer ops n0 t = none) (i : Nat) (hi : i < n0) : dstOf ops i ≠ some t := by
  unfold writer at h
  rw [List.find?_eq_none] at h
  have := h i (List.mem_range.2 hi)
  simpa using this

theorem writer_eq {n0 : Nat} {t : Tmp} {i : Nat} (hi : i < n0) (hd : dstOf ops i = some t) (huniq : ∀ j, j < n0 → dstOf ops j = some t → j = i) : writer ops n0 t = some i := by
  cases h : writer ops n0 t with
  | none => exact absurd hd (writer_none h i hi)
  | some j =>
    obtain ⟨h1, h2⟩ := writer_some h
    rw [huniq j h1 h2]

/-- The facts that the kernel has reckoned, of one operation. -/
structure Facts (ops : Array Oper) (ks : List SK) (n n0 : Nat) : Prop where
  n0le : n0 ≤ ops.size
  klen : ks.length = n0
  edge : ∀ i o, ops[i]? = some o → ∀ e ∈ o.after, Region.binds .any e = true → e.on < i
  tail : ∀ i, i < ops.size → n0 ≤ i → ∀ j, j < i → ∀ S : Nat → Prop, (∀ i o, ops[i]? = some o → S i → ∀ e ∈ o.after, Region.binds .any e = true → S e.on) → S i → S j
  dlt : ∀ i d, i < n0 → dstOf ops i = some d → d < n
  uniq : ∀ i j d, i < n0 → j < n0 → dstOf ops i = some d → dstOf ops j = some d → i = j
  nosel : ∀ i o, i < n0 → ops[i]? = some o → ∀ cs b, o.op ≠ .select cs b
  val : ∀ i o, i < n0 → ops[i]? = some o → ks.getD i .alloc = .val → ∀ t ∈ o.looksAt ops, ∀ j, j < n0 → dstOf ops j = some t →
    (ks.getD j .alloc = .val ∧ j < i ∧ ∀ S : Nat → Prop, (∀ i o, ops[i]? = some o → S i → ∀ e ∈ o.after, Region.binds .any e = true → S e.on) → S i → S j) ∨
    (i < j ∧ ∀ S : Nat → Prop, (∀ i o, ops[i]? = some o → S i → ∀ e ∈ o.after, Region.binds .any e = true → S e.on) → S j → S i)
  alloc : ∀ i o, i < n0 → ops[i]? = some o → ks.getD i .alloc = .alloc → o.guard = none ∧ (∃ d, o.dst = some d) ∧ ∀ t ∈ o.looksAt ops, ∀ k, k < n0 → dstOf ops k = some t →
    ks.getD k .alloc = .val ∧ ∀ S : Nat → Prop, (∀ i o, ops[i]? = some o → S i → ∀ e ∈ o.after, Region.binds .any e = true → S e.on) → S i → S k
  copy : ∀ i o j, i < n0 → ops[i]? = some o → ks.getD i .alloc = .copy j → o.guard = none ∧ (∃ d, dstOf ops j = some d ∧ (o.op = .move (.tmp d) ∨ o.op = .assign (.tmp d))) ∧ ks.getD j .val = .alloc ∧ j < i ∧
    ∀ S : Nat → Prop, (∀ i o, ops[i]? = some o → S i → ∀ e ∈ o.after, Region.binds .any e = true → S e.on) → S i → S j
  store : ∀ i o j, i < n0 → ops[i]? = some o → ks.getD i .alloc = .store j → o.guard = none ∧ o.dst = none ∧ ks.getD j .val = .alloc ∧ j < i ∧
    (∀ S : Nat → Prop, (∀ i o, ops[i]? = some o → S i → ∀ e ∈ o.after, Region.binds .any e = true → S e.on) → S i → S j) ∧ (∀ k, k < n0 → ks.getD k .val = .store j → k = i) ∧
    ∀ t ∈ o.looksAt ops, ∀ k, k < n0 → dstOf ops k = some t → (ks.getD k .alloc = .val ∧ ∀ S : Nat → Prop, (∀ i o, ops[i]? = some o → S i → ∀ e ∈ o.after, Region.binds .any e = true → S e.on) → S i → S k) ∨ k = j

theorem isVal_eq {k : SK} (h : k.isVal = true) : k = .val := by cases k <;> first | rfl | cases h

theorem facts_of {ks : List SK} {n n0 : Nat} (h : okMix ops ks n n0 (anc ops.toList []) = true) : Facts ops ks n n0 := by
  have hr : ∀ i j, ((anc ops.toList []).getD i 0).testBit j = true → ∀ S : Nat → Prop, (∀ i o, ops[i]? = some o → S i → ∀ e ∈ o.after, Region.binds .any e = true → S e.on) → S i → S j := by
    intro i j hb S hS
    exact anc_closed S ops.toList [] [] rfl (by simpa using hS) (by simp) i j hb
  generalize anc ops.toList [] = b at *
  unfold okMix at h
  simp only [Bool.and_eq_true, decide_eq_true_eq, List.all_eq_true, List.mem_range] at h
  obtain ⟨⟨h1, h2⟩, h3⟩ := h
  have hlt : ∀ i o, ops[i]? = some o → i < ops.size := fun i o ho => (Array.getElem?_eq_some_iff.1 ho).1
  have hd : ∀ i d, dstOf ops i = some d → ∃ o, ops[i]? = some o ∧ o.dst = some d := by
    intro i d h
    unfold dstOf at h
    cases ho : ops[i]? with
    | none => simp [ho] at h
    | some o => exact ⟨o, rfl, by simpa [ho] using h⟩
  refine ⟨h1, h2, ?_, ?_, ?_, ?_, ?_, ?_, ?_, ?_, ?_⟩
  · intro i o ho e he hb
    have h := h3 i (hlt i o ho)
    simp only [ho, Bool.and_eq_true, Array.all_eq_true', Bool.or_eq_true, decide_eq_true_eq, Bool.not_eq_true'] at h
    rcases h.1 e he with h4 | h4
    · rw [hb] at h4; cases h4
    · exact h4
  · intro i hi hn j hj
    obtain ⟨o, ho⟩ : ∃ o, ops[i]? = some o := ⟨ops[i], by simp [hi]⟩
    have h := h3 i hi
    simp only [ho, Bool.and_eq_true, if_pos hn, List.all_eq_true, List.mem_range, Bool.or_eq_true, decide_eq_true_eq] at h
    have hjs : j < ops.size := Nat.lt_trans hj hi
    have h5 := h.2 j hjs
    rcases h5 with h4 | h4
    · exact absurd hj (Nat.not_lt.2 h4)
    · exact hr i j h4
  · intro i d hi hdd
    obtain ⟨o, ho, hod⟩ := hd i d hdd
    have h := h3 i (hlt i o ho)
    simp only [ho, hod, Bool.and_eq_true, if_neg (Nat.not_le.2 hi), decide_eq_true_eq] at h
    exact h.2.1.1.1
  · intro i j d hi hj hdi hdj
    obtain ⟨o, ho, hod⟩ := hd i d hdi
    have h := h3 i (hlt i o ho)
    simp only [ho, hod, Bool.and_eq_true, if_neg (Nat.not_le.2 hi), decide_eq_true_eq, List.all_eq_true, List.mem_range, Bool.or_eq_true, Bool.not_eq_true', beq_eq_false_iff_ne] at h
    rcases h.2.1.1.2 j (by omega) with (h4 | h4) | h4
    · omega
    · exact h4.symm
    · exact absurd hdj h4
  · intro i o hi ho cs b hop
    have h := h3 i (hlt i o ho)
    simp [ho, if_neg (Nat.not_le.2 hi), hop] at h
  · intro i o hi ho hk t ht j hj hdj
    have h := h3 i (hlt i o ho)
    simp only [ho, Bool.and_eq_true, if_neg (Nat.not_le.2 hi), hk, List.all_eq_true, List.mem_range, Bool.or_eq_true, Bool.not_eq_true', decide_eq_true_eq, beq_eq_false_iff_ne] at h
    rcases h.2.2 t ht j (by omega) with ((h4 | h4) | h4) | h4
    · omega
    · exact absurd hdj h4
    · exact .inl ⟨isVal_eq h4.1.1, h4.2, hr i j h4.1.2⟩
    · exact .inr ⟨h4.2, hr j i h4.1⟩
  · intro i o hi ho hk
    have h := h3 i (hlt i o ho)
    simp only [ho, Bool.and_eq_true, if_neg (Nat.not_le.2 hi), hk, List.all_eq_true, List.mem_range, Bool.or_eq_true, Bool.not_eq_true', decide_eq_true_eq, beq_eq_false_iff_ne, Option.isNone_iff_eq_none, Option.isSome_iff_exists] at h
    refine ⟨h.2.2.1.1, h.2.2.1.2, fun t ht k hk0 hdk => ?_⟩
    rcases h.2.2.2 t ht k (by omega) with (h4 | h4) | h4
    · omega
    · exact absurd hdk h4
    · refine ⟨?_, hr i k h4.2⟩
      have := h4.1
      unfold SK.isVal at this
      split at this
      · assumption
      · cases this
  · intro i o j hi ho hk
    have h := h3 i (hlt i o ho)
    simp only [ho, Bool.and_eq_true, if_neg (Nat.not_le.2 hi), hk, decide_eq_true_eq, Option.isNone_iff_eq_none] at h
    obtain ⟨_, _, ⟨⟨⟨hg, hm⟩, hka⟩, hrij⟩, hji⟩ := h
    refine ⟨hg, ?_, hka, hji, hr i j hrij⟩
    unfold isMoveOf at hm
    split at hm
    · rename_i t d heq1 heq2
      exact ⟨d, heq2, .inl (by rw [heq1]; simp at hm; rw [hm])⟩
    · rename_i t d heq1 heq2
      exact ⟨d, heq2, .inr (by rw [heq1]; simp at hm; rw [hm])⟩
    · cases hm
  · intro i o j hi ho hk
    have h := h3 i (hlt i o ho)
    simp only [ho, Bool.and_eq_true, if_neg (Nat.not_le.2 hi), hk, List.all_eq_true, List.mem_range, Bool.or_eq_true, Bool.not_eq_true', decide_eq_true_eq, decide_eq_false_iff_not, beq_eq_false_iff_ne, Option.isNone_iff_eq_none] at h
    obtain ⟨_, _, ⟨⟨⟨⟨⟨hg, hdn⟩, hka⟩, hrij⟩, hji⟩, hu⟩, hl⟩ := h
    refine ⟨hg, hdn, hka, hji, hr i j hrij, fun k hk0 hks => ?_, fun t ht k hk0 hdk => ?_⟩
    · rcases hu k (by omega) with h4 | h4
      · exact h4
      · exact absurd hks h4
    · rcases hl t ht k (by omega) with ((h4 | h4) | h4) | h4
      · omega
      · exact absurd hdk h4
      · left
        exact ⟨isVal_eq h4.1, hr i k h4.2⟩
      · exact .inr h4

theorem dstOf_eq {i : Nat} {o : Oper} (ho : ops[i]? = some o) : dstOf ops i = o.dst := by simp [dstOf, ho]

theorem evA_spec {ks : List SK} {n n0 : Nat} {w0 : World} {K : Act → Prop} (F : Facts ops ks n n0) : ∀ (c m : Nat) (a : Act), m + c = n0 → a.tmps.size = n → evA P ops w0 ks K (List.range' m c) a →
    ∃ aA, K aA ∧ aA.defers = a.defers ∧ aA.tmps.size = n ∧
      (∀ t, (∀ j, m ≤ j → j < n0 → ks.getD j .alloc = .val → dstOf ops j ≠ some t) → aA.tmps.getD t undef = a.tmps.getD t undef) ∧
      ∀ i, m ≤ i → i < n0 → ks.getD i .alloc = .val → ∃ o v ai, ops[i]? = some o ∧ Comes1 P ops w0 o ai v ∧ ai.tmps.size = n ∧
        (∀ t j, m ≤ j → j < i → ks.getD j .alloc = .val → dstOf ops j = some t → ai.tmps.getD t undef = aA.tmps.getD t undef) ∧
        (∀ t, (∀ j, m ≤ j → j < i → ks.getD j .alloc = .val → dstOf ops j ≠ some t) → ai.tmps.getD t undef = a.tmps.getD t undef) ∧
        (∀ d, o.dst = some d → aA.tmps.getD d undef = v)
  | 0, m, a, hm, hn, h => ⟨a, h, rfl, hn, fun _ _ => rfl, fun i h1 h2 => by omega⟩
  | c + 1, m, a, hm, hn, h => by
    rw [List.range'_succ] at h
    simp only [evA] at h
    by_cases hk : (ks.getD m .alloc).isVal = true
    · rw [if_pos hk] at h
      have hkv := isVal_eq hk
      cases ho : ops[m]? with
      | none => simp [ho] at h
      | some o =>
        simp only [ho] at h
        obtain ⟨v, hc, h⟩ := h
        have hdo := dstOf_eq ho
        have hlt : ∀ x, o.dst = some x → x < a.tmps.size := fun x hx => hn ▸ F.dlt m x (by omega) (by rw [hdo]; exact hx)
        obtain ⟨aA, hK, hdf, hsz, h1, h2⟩ := evA_spec F c (m + 1) (a.put o.dst v) (by omega) (by rw [put_size]; exact hn) h
        have hv : ∀ d, o.dst = some d → aA.tmps.getD d undef = v := by
          intro d hd
          rw [h1 d (fun j hj1 hj2 _ hjd => by have := F.uniq j m d hj2 (by omega) hjd (by rw [hdo]; exact hd); omega), getD_put _ _ _ _ hlt, if_pos hd]
        refine ⟨aA, hK, by rw [hdf, put_defers'], hsz, fun t ht => ?_, fun i hi1 hi2 hiv => ?_⟩
        · rw [h1 t (fun j hj1 hj2 => ht j (by omega) hj2), getD_put _ _ _ _ hlt, if_neg]
          intro hd
          exact ht m (Nat.le_refl _) (by omega) hkv (by rw [hdo]; exact hd)
        · by_cases him : i = m
          · subst him
            exact ⟨o, v, a, ho, hc, hn, fun t j hj1 hj2 => by omega, fun _ _ => rfl, hv⟩
          · obtain ⟨o', v', ai, ho', hc', as, a1, a2, a3⟩ := h2 i (by omega) hi2 hiv
            refine ⟨o', v', ai, ho', hc', as, fun t j hj1 hj2 hjv hjd => ?_, fun t ht => ?_, a3⟩
            · by_cases hjm : j = m
              · subst hjm
                have hd : o.dst = some t := by rw [← hdo]; exact hjd
                rw [hv t hd, a2 t (fun k hk1 hk2 _ hkd => by have := F.uniq k j t (by omega) (by omega) hkd hjd; omega), getD_put _ _ _ _ hlt, if_pos hd]
              · exact a1 t j (by omega) hj2 hjv hjd
            · rw [a2 t (fun j hj1 hj2 => ht j (by omega) hj2), getD_put _ _ _ _ hlt, if_neg]
              intro hd
              exact ht m (Nat.le_refl _) (by omega) hkv (by rw [hdo]; exact hd)
    · rw [if_neg hk] at h
      obtain ⟨aA, hK, hdf, hsz, h1, h2⟩ := evA_spec F c (m + 1) a (by omega) hn h
      have hnv : ks.getD m .alloc ≠ .val := fun he => hk (by rw [he]; rfl)
      refine ⟨aA, hK, hdf, hsz, fun t ht => h1 t (fun j hj1 hj2 => ht j (by omega) hj2), fun i hi1 hi2 hiv => ?_⟩
      by_cases him : i = m
      · subst him; exact absurd hiv hnv
      · obtain ⟨o', v', ai, ho', hc', as, a1, a2, a3⟩ := h2 i (by omega) hi2 hiv
        refine ⟨o', v', ai, ho', hc', as, fun t j hj1 hj2 hjv hjd => ?_, fun t ht => a2 t (fun j hj1 hj2 => ht j (by omega) hj2), a3⟩
        by_cases hjm : j = m
        · subst hjm; exact absurd hjv hnv
        · exact a1 t j (by omega) hj2 hjv hjd

/-- Two frames that agree where an operation looks. -/
theorem execOp_agree {o : Oper} {a a' : Act} (hs : ∀ cs b, o.op ≠ .select cs b) (h : ∀ t ∈ o.looksAt ops, a.tmps.getD t undef = a'.tmps.getD t undef) : execOp a.eval o = execOp a'.eval o := by
  refine execOp_congr o hs fun x hx => ?_
  cases x with
  | tmp t =>
    refine h t ?_
    unfold Oper.looksAt
    rw [List.mem_append]
    left
    rw [List.mem_filterMap]
    exact ⟨.tmp t, by simpa using hx, rfl⟩
  | _ => rfl

theorem wanted_agree {o : Oper} {a a' : Act} (hsz : a.tmps.size = a'.tmps.size) (h : ∀ t ∈ o.looksAt ops, a.tmps.getD t undef = a'.tmps.getD t undef) :
    Region.wanted o (yielded ops a.tmps) = Region.wanted o (yielded ops a'.tmps) := by
  unfold Region.wanted
  cases hg : o.guard with
  | none => rfl
  | some p =>
    obtain ⟨g, want⟩ := p
    simp only []
    congr 1
    unfold yielded
    cases hd : (ops[g]?).bind (·.dst) with
    | none => rfl
    | some t =>
      have ht : t ∈ o.looksAt ops := by
        unfold Oper.looksAt
        rw [List.mem_append]
        right
        simp [hg, hd]
      have := h t ht
      simp only [Option.bind_some]
      by_cases hlt : t < a.tmps.size
      · have hlt' : t < a'.tmps.size := hsz ▸ hlt
        simp only [Array.getD, hlt, hlt', dif_pos] at this
        have e : a.tmps[t] = a'.tmps[t] := this
        simp [hlt, hlt', e]
      · have hlt' : ¬ t < a'.tmps.size := hsz ▸ hlt
        simp [hlt, hlt']

/-- One more of a set. -/
def plus (S : Nat → Bool) (i : Nat) : Nat → Bool := fun j => S j || decide (j = i)

theorem plus_self (S : Nat → Bool) (i : Nat) : plus S i i = true := by simp [plus]
theorem plus_ne (S : Nat → Bool) {i j : Nat} (h : j ≠ i) : plus S i j = S j := by simp [plus, h]

theorem heap_below {w w' : World} {b : Nat} {o : Obj} (hb : Below w.heap.size w w') (hlt : b < w.heap.size) (h : w.heap[b]? = some o) : b < w'.heap.size ∧ w'.heap[b]? = some o :=
  ⟨Nat.lt_of_lt_of_le hlt hb.size, by rw [hb.block b hlt]; exact h⟩

theorem low_trans {w0 w w' : World} (h : Below w0.heap.size w0 w) (hb : Below w.heap.size w w') : Below w0.heap.size w0 w' := h.trans (hb.mono h.size)

section step
variable {ks : List SK} {n n0 : Nat} {w0 : World} {a0 aA : Act} {obj fin : Nat → Obj}

/-- A slot when one more is through. -/
theorem slot_plus (F : Facts ops ks n n0) {β : Nat → Nat} {S : Nat → Bool} {i : Nat} {o : Oper} (ho : ops[i]? = some o) (hi : i < n0) (t : Tmp) :
    slot ops ks n0 a0 aA β (plus S i) t = if o.dst = some t then (match ks.getD i .val with
      | .val => aA.tmps.getD t undef
      | .alloc => .pointer (some ⟨β i, 0, none⟩)
      | .copy k => .pointer (some ⟨β k, 0, none⟩)
      | .store _ => undef) else slot ops ks n0 a0 aA β S t := by
  have hdo := dstOf_eq ho
  by_cases hd : o.dst = some t
  · rw [if_pos hd]
    have hw : writer ops n0 t = some i := writer_eq hi (by rw [hdo]; exact hd) (fun j hj hjd => F.uniq j i t hj hi hjd (by rw [hdo]; exact hd))
    simp only [slot, hw, plus_self, if_true]
  · rw [if_neg hd]
    unfold slot
    cases hw : writer ops n0 t with
    | none => rfl
    | some j =>
      obtain ⟨hj, hjd⟩ := writer_some hw
      have hne : j ≠ i := by
        rintro rfl
        rw [hdo] at hjd
        exact hd hjd
      simp only [plus_ne S hne]

/-- Only the copies and makers that are through show block names. -/
theorem slot_congr (F : Facts ops ks n n0) {β β' : Nat → Nat} {S : Nat → Bool} (hS : ∀ i o, ops[i]? = some o → S i = true → ∀ e ∈ o.after, Region.binds .any e = true → S e.on = true)
    (h : ∀ k, S k = true → ks.getD k .val = .alloc → β' k = β k) (t : Tmp) : slot ops ks n0 a0 aA β' S t = slot ops ks n0 a0 aA β S t := by
  unfold slot
  cases hw : writer ops n0 t with
  | none => rfl
  | some j =>
    simp only []
    by_cases hj : S j = true
    · rw [if_pos hj, if_pos hj]
      obtain ⟨hjn, hjd⟩ := writer_some hw
      cases hk : ks.getD j .val with
      | val => rfl
      | store => rfl
      | alloc => simp only [h j hj hk]
      | copy k =>
        have hjl : j < ops.size := Nat.lt_of_lt_of_le hjn F.n0le
        have hk' : ks.getD j .alloc = .copy k := by
          rw [List.getD_eq_getElem?_getD] at hk ⊢
          have : j < ks.length := by rw [F.klen]; exact hjn
          simp [this] at hk ⊢; exact hk
        obtain ⟨_, _, hka, _, hcl⟩ := F.copy j ops[j] k hjn (by simp [hjl]) hk'
        simp only [h k (hcl (fun i => S i = true) hS hj) hka]
    · rw [if_neg hj, if_neg hj]

theorem getD_kind (F : Facts ops ks n n0) {i : Nat} (hi : i < n0) (d d' : SK) : ks.getD i d = ks.getD i d' := by
  have : i < ks.length := by rw [F.klen]; exact hi
  simp [List.getD_eq_getElem?_getD, this]

theorem stored_plus (_F : Facts ops ks n n0) {S : Nat → Bool} {i k : Nat} (hi : i < n0) (h : ks.getD i .val ≠ .store k) : stored ks (plus S i) k = stored ks S k := by
  unfold stored
  rw [Bool.eq_iff_iff]
  simp only [List.any_eq_true, List.mem_range, Bool.and_eq_true, decide_eq_true_eq]
  constructor
  · rintro ⟨j, hj, hjk, hjS⟩
    have : j ≠ i := by rintro rfl; exact h hjk
    exact ⟨j, hj, hjk, by rwa [plus_ne S this] at hjS⟩
  · rintro ⟨j, hj, hjk, hjS⟩
    exact ⟨j, hj, hjk, by simp [plus, hjS]⟩

/-- A value comes: nothing else turns. -/
theorem Inv.val {β : Nat → Nat} {S : Nat → Bool} {a : Act} {w w' : World} (F : Facts ops ks n n0) (hn : a0.tmps.size = n) (I : Inv ops ks n0 w0 a0 aA obj fin β S a w) {i : Nat} {o : Oper} (ho : ops[i]? = some o) (hi : i < n0)
    (hk : ks.getD i .val = .val) {v : Value} (hv : ∀ d, o.dst = some d → aA.tmps.getD d undef = v) (hb : Below w.heap.size w w') : Inv ops ks n0 w0 a0 aA obj fin β (plus S i) (a.put o.dst v) w' := by
  have hlt : ∀ x, o.dst = some x → x < a.tmps.size := fun x hx => by rw [I.asz, hn]; exact F.dlt i x hi (by rw [dstOf_eq ho]; exact hx)
  have hne : ∀ j, ks.getD j .val = .alloc → j ≠ i := fun j hj he => by rw [he, hk] at hj; cases hj
  refine ⟨by rw [put_size]; exact I.asz, by rw [put_defers']; exact I.adf, fun t => ?_, low_trans I.low hb, fun j hj hja hjS => ?_, fun j k hj hk' hja hka hjS hkS => ?_⟩
  · rw [slot_plus F ho hi, getD_put _ _ _ _ hlt, hk]
    by_cases hd : o.dst = some t
    · rw [if_pos hd, if_pos hd]; exact (hv t hd).symm
    · rw [if_neg hd, if_neg hd]; exact I.at_ t
  · rw [plus_ne S (hne j hja)] at hjS
    obtain ⟨h1, h2, h3⟩ := I.fresh j hj hja hjS
    rw [stored_plus F hi (by rw [hk]; simp)]
    exact ⟨h1, (heap_below hb h2 h3).1, (heap_below hb h2 h3).2⟩
  · rw [plus_ne S (hne j hja)] at hjS
    rw [plus_ne S (hne k hka)] at hkS
    exact I.inj j k hj hk' hja hka hjS hkS

theorem Inv.alloc {β : Nat → Nat} {S : Nat → Bool} {a : Act} {w : World} (F : Facts ops ks n n0) (hn : a0.tmps.size = n) (I : Inv ops ks n0 w0 a0 aA obj fin β S a w)
    (hS : ∀ i o, ops[i]? = some o → S i = true → ∀ e ∈ o.after, Region.binds .any e = true → S e.on = true) {i : Nat} {o : Oper} (ho : ops[i]? = some o) (hi : i < n0)
    (hk : ks.getD i .val = .alloc) (hiS : S i = false) : Inv ops ks n0 w0 a0 aA obj fin (fun j => if j = i then w.heap.size else β j) (plus S i) (a.put o.dst (.pointer (some ⟨w.heap.size, 0, none⟩))) (w.alloc (obj i)) := by
  have hlt : ∀ x, o.dst = some x → x < a.tmps.size := fun x hx => by rw [I.asz, hn]; exact F.dlt i x hi (by rw [dstOf_eq ho]; exact hx)
  have hb : Below w.heap.size w (w.alloc (obj i)) := (Below.refl _ _).alloc (Nat.le_refl _) _
  have hst : stored ks (plus S i) i = false := by
    rw [stored_plus F hi (by rw [hk]; simp)]
    unfold stored
    rw [List.any_eq_false]
    intro j hj hc
    simp only [Bool.and_eq_true, decide_eq_true_eq] at hc
    have hjn : j < n0 := by rw [← F.klen]; exact List.mem_range.1 hj
    have hjl : j < ops.size := Nat.lt_of_lt_of_le hjn F.n0le
    obtain ⟨_, _, _, _, hcl, _⟩ := F.store j ops[j] i hjn (by simp [hjl]) (by rw [getD_kind F hjn _ .val]; exact hc.1)
    have := hcl (fun i => S i = true) hS hc.2
    rw [hiS] at this
    cases this
  refine ⟨by rw [put_size]; exact I.asz, by rw [put_defers']; exact I.adf, fun t => ?_, low_trans I.low hb, fun j hj hja hjS => ?_, fun j k hj hk' hja hka hjS hkS => ?_⟩
  · rw [slot_plus F ho hi, getD_put _ _ _ _ hlt, hk]
    by_cases hd : o.dst = some t
    · rw [if_pos hd, if_pos hd]; simp
    · rw [if_neg hd, if_neg hd, slot_congr F (β' := fun j => if j = i then w.heap.size else β j) (β := β) hS (fun k hkS _ => if_neg (by rintro rfl; rw [hiS] at hkS; cases hkS))]
      exact I.at_ t
  · by_cases hji : j = i
    · subst hji
      rw [if_pos rfl, hst]
      refine ⟨I.low.size, ?_, ?_⟩
      · show w.heap.size < (w.heap.push _).size
        rw [Array.size_push]; omega
      · show (w.heap.push _)[w.heap.size]? = _
        rw [Array.getElem?_push_size]; rfl
    · rw [plus_ne S hji] at hjS
      obtain ⟨h1, h2, h3⟩ := I.fresh j hj hja hjS
      rw [if_neg hji, stored_plus F hi (by rw [hk]; simp)]
      exact ⟨h1, (heap_below hb h2 h3).1, (heap_below hb h2 h3).2⟩
  · intro he
    by_cases hji : j = i
    · by_cases hki : k = i
      · rw [hji, hki]
      · rw [plus_ne S hki] at hkS
        rw [if_pos hji, if_neg hki] at he
        have := (I.fresh k hk' hka hkS).2.1
        omega
    · rw [plus_ne S hji] at hjS
      by_cases hki : k = i
      · rw [if_neg hji, if_pos hki] at he
        have := (I.fresh j hj hja hjS).2.1
        omega
      · rw [plus_ne S hki] at hkS
        rw [if_neg hji, if_neg hki] at he
        exact I.inj j k hj hk' hja hka hjS hkS he

theorem Inv.copy {β : Nat → Nat} {S : Nat → Bool} {a : Act} {w : World} (F : Facts ops ks n n0) (hn : a0.tmps.size = n) (I : Inv ops ks n0 w0 a0 aA obj fin β S a w) {i j : Nat} {o : Oper} (ho : ops[i]? = some o) (hi : i < n0)
    (hk : ks.getD i .val = .copy j) : Inv ops ks n0 w0 a0 aA obj fin β (plus S i) (a.put o.dst (.pointer (some ⟨β j, 0, none⟩))) w := by
  have hlt : ∀ x, o.dst = some x → x < a.tmps.size := fun x hx => by rw [I.asz, hn]; exact F.dlt i x hi (by rw [dstOf_eq ho]; exact hx)
  have hne : ∀ j, ks.getD j .val = .alloc → j ≠ i := fun j hj he => by rw [he, hk] at hj; cases hj
  refine ⟨by rw [put_size]; exact I.asz, by rw [put_defers']; exact I.adf, fun t => ?_, I.low, fun j hj hja hjS => ?_, fun j k hj hk' hja hka hjS hkS => ?_⟩
  · rw [slot_plus F ho hi, getD_put _ _ _ _ hlt, hk]
    by_cases hd : o.dst = some t
    · rw [if_pos hd, if_pos hd]
    · rw [if_neg hd, if_neg hd]; exact I.at_ t
  · rw [plus_ne S (hne j hja)] at hjS
    rw [stored_plus F hi (by rw [hk]; simp)]
    exact I.fresh j hj hja hjS
  · rw [plus_ne S (hne j hja)] at hjS
    rw [plus_ne S (hne k hka)] at hkS
    exact I.inj j k hj hk' hja hka hjS hkS

theorem Inv.store {β : Nat → Nat} {S : Nat → Bool} {a : Act} {w : World} (F : Facts ops ks n n0) (I : Inv ops ks n0 w0 a0 aA obj fin β S a w) {i j : Nat} {o : Oper} (ho : ops[i]? = some o) (hi : i < n0)
    (hk : ks.getD i .val = .store j) (hjS : S j = true) : Inv ops ks n0 w0 a0 aA obj fin β (plus S i) (a.put o.dst undef) { w with heap := w.heap.setIfInBounds (β j) (fin j) } := by
  obtain ⟨_, hdn, hja, hji, _, hu, _⟩ := F.store i o j hi ho (by rw [getD_kind F hi _ .val]; exact hk)
  have hne : ∀ j, ks.getD j .val = .alloc → j ≠ i := fun j hj he => by rw [he, hk] at hj; cases hj
  obtain ⟨g1, g2, g3⟩ := I.fresh j (by omega) hja hjS
  rw [hdn]
  refine ⟨I.asz, I.adf, fun t => ?_, ?_, fun k hk' hka hkS => ?_, fun j k hj hk' hja hka hjS hkS => ?_⟩
  · rw [slot_plus F ho hi, if_neg (by rw [hdn]; simp)]; exact I.at_ t
  · refine ⟨I.low.os, I.low.tape, I.low.output, by simpa using I.low.size, fun b hb => ?_⟩
    rw [Array.getElem?_setIfInBounds_ne (by omega)]
    exact I.low.block b hb
  · rw [plus_ne S (hne k hka)] at hkS
    obtain ⟨h1, h2, h3⟩ := I.fresh k hk' hka hkS
    refine ⟨h1, by simpa using h2, ?_⟩
    by_cases hkj : k = j
    · subst hkj
      have : stored ks (plus S i) k = true := by
        unfold stored
        rw [List.any_eq_true]
        exact ⟨i, List.mem_range.2 (by rw [F.klen]; exact hi), by simp only [Bool.and_eq_true, decide_eq_true_eq]; exact ⟨hk, plus_self S i⟩⟩
      rw [this]
      show (w.heap.setIfInBounds (β k) (fin k))[β k]? = _
      rw [Array.getElem?_setIfInBounds_self_of_lt h2]; rfl
    · rw [Array.getElem?_setIfInBounds_ne (fun he => hkj (I.inj k j hk' (by omega) hka hja hkS hjS he.symm)), h3, stored_plus F hi (by rw [hk]; simp; exact fun he => hkj he.symm)]
  · rw [plus_ne S (hne j hja)] at hjS
    rw [plus_ne S (hne k hka)] at hkS
    exact I.inj j k hj hk' hja hka hjS hkS

/-- What is known of the operations that make memory. -/
structure Made (P : Program) (ops : Array Oper) (ks : List SK) (n0 : Nat) (w0 : World) (aA : Act) (obj fin : Nat → Obj) : Prop where
  alloc : ∀ i o, i < n0 → ops[i]? = some o → ks.getD i .val = .alloc → ∀ w, Below w0.heap.size w0 w → (execOp aA.eval o).run P w = .ok (.value (.pointer (some ⟨w.heap.size, 0, none⟩))) (w.alloc (obj i))
  store : ∀ i o j, i < n0 → ops[i]? = some o → ks.getD i .val = .store j → ∀ d, dstOf ops j = some d → ∀ b w, Below w0.heap.size w0 w → w0.heap.size ≤ b → w.heap[b]? = some (obj j) →
    (execOp (aA.put (some d) (.pointer (some ⟨b, 0, none⟩))).eval o).run P w = .ok .skip { w with heap := w.heap.setIfInBounds b (fin j) }

theorem wp_of_gives {o : Oper} {a : Act} {w : World} {v : Value} {K : Act → World → Prop} (h : gUpon P w v ((execOp a.eval o).run P w)) (hK : ∀ w', Below w.heap.size w w' → K (a.put o.dst v) w') : o.wp P a w K Q := by
  unfold Oper.wp
  generalize (execOp a.eval o).run P w = r at *
  cases r with
  | halt x w' => exact h.elim
  | ok n w' =>
    cases n <;> simp only [gUpon] at h <;> simp only [Oper.upon]
    case value u => obtain ⟨e1, e2⟩ := h; rw [e1, e2]; exact hK _ (Below.refl _ _)
    case skip => obtain ⟨e1, e2⟩ := h; rw [e1, ← e2]; exact hK _ (Below.refl _ _)
    case enter f args =>
      obtain ⟨e1, hc⟩ := h
      rw [e1]
      exact hc.mono fun e w'' ⟨he, hw''⟩ => by subst he; exact hK _ hw''

theorem step_any (F : Facts ops ks n n0) (hn : a0.tmps.size = n) (hAn : aA.tmps.size = n) (M : Made P ops ks n0 w0 aA obj fin)
    (hA : ∀ t, (∀ j, j < n0 → ks.getD j .alloc = .val → dstOf ops j ≠ some t) → aA.tmps.getD t undef = a0.tmps.getD t undef)
    (hE : ∀ i, i < n0 → ks.getD i .alloc = .val → ∃ o v ai, ops[i]? = some o ∧ Comes1 P ops w0 o ai v ∧ ai.tmps.size = n ∧
        (∀ t j, j < i → ks.getD j .alloc = .val → dstOf ops j = some t → ai.tmps.getD t undef = aA.tmps.getD t undef) ∧
        (∀ t, (∀ j, j < i → ks.getD j .alloc = .val → dstOf ops j ≠ some t) → ai.tmps.getD t undef = a0.tmps.getD t undef) ∧
        (∀ d, o.dst = some d → aA.tmps.getD d undef = v))
    {β : Nat → Nat} {S : Nat → Bool} {a : Act} {w : World} (I : Inv ops ks n0 w0 a0 aA obj fin β S a w)
    (hS : ∀ i o, ops[i]? = some o → S i = true → ∀ e ∈ o.after, Region.binds .any e = true → S e.on = true)
    {i : Nat} {o : Oper} (ho : ops[i]? = some o) (hi : i < n0) (hiS : S i = false) (hpre : ∀ e ∈ o.after, Region.binds .any e = true → S e.on = true) :
    wpOp P ops Q i (fun a' w' => ∃ β', Inv ops ks n0 w0 a0 aA obj fin β' (plus S i) a' w') a w := by
  have hSp : ∀ k ok, ops[k]? = some ok → plus S i k = true → ∀ e ∈ ok.after, Region.binds .any e = true → plus S i e.on = true := by
    intro k ok hk hkS e he hb
    have : S e.on = true := by
      by_cases hki : k = i
      · subst hki
        have : ok = o := Option.some.inj (hk.symm.trans ho)
        subst this
        exact hpre e he hb
      · rw [plus_ne S hki] at hkS
        exact hS k ok hk hkS e he hb
    simp [plus, this]
  have hcl : ∀ j, (∀ S : Nat → Prop, (∀ i o, ops[i]? = some o → S i → ∀ e ∈ o.after, Region.binds .any e = true → S e.on) → S i → S j) → j ≠ i → S j = true := by
    intro j h hji
    have := h (fun k => plus S i k = true) hSp (plus_self S i)
    rwa [plus_ne S hji] at this
  have hdo := dstOf_eq ho
  -- slots that makers look at
  have look : ∀ t, (∀ k, k < n0 → dstOf ops k = some t → ks.getD k .alloc = .val ∧ S k = true) → a.tmps.getD t undef = aA.tmps.getD t undef := by
    intro t ht
    rw [I.at_ t]
    unfold slot
    cases hw : writer ops n0 t with
    | none => exact (hA t (fun j hj _ hjd => writer_none hw j hj hjd)).symm
    | some j =>
      obtain ⟨hj, hjd⟩ := writer_some hw
      obtain ⟨h1, h2⟩ := ht j hj hjd
      simp only [h2, if_true]
      rw [getD_kind F hj .val .alloc, h1]
  unfold wpOp
  simp only [ho]
  cases hk : ks.getD i .alloc with
  | val =>
    have hkv : ks.getD i .val = .val := by rw [getD_kind F hi _ .alloc]; exact hk
    obtain ⟨o', v, ai, ho', hc, as, a1, a2, a3⟩ := hE i hi hk
    have : o' = o := Option.some.inj (ho'.symm.trans ho)
    subst this
    have hag : ∀ t ∈ o'.looksAt ops, a.tmps.getD t undef = ai.tmps.getD t undef := by
      intro t ht
      rw [I.at_ t]
      unfold slot
      cases hw : writer ops n0 t with
      | none => exact (a2 t (fun j hj _ hjd => writer_none hw j (by omega) hjd)).symm
      | some j =>
        obtain ⟨hj, hjd⟩ := writer_some hw
        rcases F.val i o' hi ho hk t ht j hj hjd with ⟨h1, h2, h3⟩ | ⟨h2, h3⟩
        · have hjS := hcl j h3 (by omega)
          simp only [hjS, if_true]
          rw [getD_kind F hj .val .alloc, h1, a1 t j h2 h1 hjd]
        · have hjS : S j = false := by
            cases hc : S j with
            | false => rfl
            | true =>
              have := h3 (fun k => S k = true) hS hc
              rw [hiS] at this
              cases this
          simp only [hjS]
          exact (a2 t (fun k hk1 _ hkd => by have := F.uniq k j t (by omega) hj hkd hjd; omega)).symm
    have hsz : a.tmps.size = ai.tmps.size := by rw [I.asz, hn, as]
    have hwa := wanted_agree (ops := ops) (o := o') hsz hag
    have hxe := execOp_agree (ops := ops) (o := o') (F.nosel i o' hi ho) hag
    rcases hc with ⟨hw, hg⟩ | ⟨hw, rfl⟩
    · rw [if_pos (by rw [hwa]; exact hw)]
      refine .inl (wp_of_gives (v := v) (by rw [hxe]; exact hg w I.low) fun w' hb => ⟨β, I.val F hn ho hi hkv a3 hb⟩)
    · rw [if_neg (by rw [hwa, hw]; simp)]
      exact ⟨β, I.val F hn ho hi hkv a3 (Below.refl _ _)⟩
  | alloc =>
    have hkv : ks.getD i .val = .alloc := by rw [getD_kind F hi _ .alloc]; exact hk
    obtain ⟨hg, _, hl⟩ := F.alloc i o hi ho hk
    have hag : ∀ t ∈ o.looksAt ops, a.tmps.getD t undef = aA.tmps.getD t undef := fun t ht => look t fun k hk0 hkd => by
      obtain ⟨h1, h2⟩ := hl t ht k hk0 hkd
      exact ⟨h1, hcl k h2 (by rintro rfl; rw [hk] at h1; cases h1)⟩
    rw [if_pos (by simp [Region.wanted, hg])]
    refine .inl ?_
    unfold Oper.wp
    rw [execOp_agree (ops := ops) (F.nosel i o hi ho) hag, M.alloc i o hi ho hkv w I.low]
    exact ⟨_, I.alloc F hn hS ho hi hkv hiS⟩
  | copy j =>
    have hkv : ks.getD i .val = .copy j := by rw [getD_kind F hi _ .alloc]; exact hk
    obtain ⟨hg, ⟨d, hjd, hop⟩, hja, hji, h3⟩ := F.copy i o j hi ho hk
    have hjS := hcl j h3 (by omega)
    have hval : a.tmps.getD d undef = .pointer (some ⟨β j, 0, none⟩) := by
      rw [I.at_ d]
      unfold slot
      rw [writer_eq (i := j) (by omega) hjd (fun k hk0 hkd => F.uniq k j d hk0 (by omega) hkd hjd)]
      simp only [hjS, if_true, hja]
    rw [if_pos (by simp [Region.wanted, hg])]
    refine .inl ?_
    unfold Oper.wp
    have hrun : (execOp a.eval o).run P w = .ok (.value (.pointer (some ⟨β j, 0, none⟩))) w := by
      rw [← hval]
      rcases hop with h | h <;> simp only [execOp, h] <;> rfl
    rw [hrun]
    exact ⟨β, I.copy F hn ho hi hkv⟩
  | store j =>
    have hkv : ks.getD i .val = .store j := by rw [getD_kind F hi _ .alloc]; exact hk
    obtain ⟨hg, hdn, hja, hji, h3, hu, hl⟩ := F.store i o j hi ho hk
    have hjS := hcl j h3 (by omega)
    have hjn : j < n0 := by omega
    have hjl : j < ops.size := Nat.lt_of_lt_of_le hjn F.n0le
    obtain ⟨_, ⟨d, hd⟩, _⟩ := F.alloc j ops[j] hjn (by simp [hjl]) (by rw [getD_kind F hjn _ .val]; exact hja)
    have hjd : dstOf ops j = some d := by rw [dstOf_eq (o := ops[j]) (by simp [hjl])]; exact hd
    have hnst : stored ks S j = false := by
      unfold stored
      rw [List.any_eq_false]
      intro k hk0 hc
      simp only [Bool.and_eq_true, decide_eq_true_eq] at hc
      have := hu k (by rw [← F.klen]; exact List.mem_range.1 hk0) hc.1
      rw [this, hiS] at hc
      cases hc.2
    obtain ⟨g1, g2, g3⟩ := I.fresh j hjn hja hjS
    rw [hnst] at g3
    have hag : ∀ t ∈ o.looksAt ops, a.tmps.getD t undef = (aA.put (some d) (.pointer (some ⟨β j, 0, none⟩))).tmps.getD t undef := by
      intro t ht
      rw [getD_put _ _ _ _ (fun x hx => by rw [hAn]; exact F.dlt j x hjn (by rw [hjd]; exact hx))]
      by_cases hdt : d = t
      · subst hdt
        rw [if_pos rfl, I.at_ d]
        unfold slot
        rw [writer_eq (i := j) hjn hjd (fun k hk0 hkd => F.uniq k j d hk0 hjn hkd hjd)]
        simp only [hjS, if_true, hja]
      · rw [if_neg (by simp [hdt])]
        refine look t fun k hk0 hkd => ?_
        rcases hl t ht k hk0 hkd with ⟨h1, h2⟩ | h1
        · exact ⟨h1, hcl k h2 (by rintro rfl; rw [hk] at h1; cases h1)⟩
        · subst h1
          rw [hjd] at hkd
          exact absurd (Option.some.inj hkd) hdt
    rw [if_pos (by simp [Region.wanted, hg])]
    refine .inl ?_
    unfold Oper.wp
    rw [execOp_agree (ops := ops) (F.nosel i o hi ho) hag, M.store i o j hi ho hkv d hjd (β j) w I.low g1 g3]
    exact ⟨β, I.store F ho hi hkv hjS⟩

theorem countP_lt {α : Type} {p q : α → Bool} (h : ∀ x, q x = true → p x = true) {i : α} (hp : p i = true) (hq : q i = false) : ∀ (l : List α), i ∈ l → l.countP q < l.countP p
  | x :: l, hi => by
    have hle : l.countP q ≤ l.countP p := List.countP_mono_left fun x _ => h x
    rw [List.countP_cons, List.countP_cons]
    by_cases hx : x = i
    · subst hx
      rw [hp, hq]
      simp
      omega
    · have := countP_lt h hp hq l (by simpa [Ne.symm hx] using hi)
      by_cases hqx : q x = true
      · rw [hqx, h x hqx]; simp; omega
      · simp only [Bool.not_eq_true] at hqx
        rw [hqx]; simp; omega

def left (ops : Array Oper) (listed : Array Bool) : Nat := (List.range ops.size).countP fun i => !listed.getD i true

theorem left_set {listed : Array Bool} {i : Nat} (hi : i < ops.size) (hs : listed.size = ops.size) (h : listed.getD i true = false) : left ops (listed.setIfInBounds i true) < left ops listed := by
  refine countP_lt (i := i) (fun x hx => ?_) (by simp [h]) ?_ _ (List.mem_range.2 hi)
  · by_cases hxi : i = x
    · subst hxi; simp [h]
    · rw [getD_set_ne true hxi] at hx; exact hx
  · have : i < listed.size := hs ▸ hi
    simp [this]

theorem any2 (F : Facts ops ks n n0) : ∀ (c m fuel : Nat) (listed : Array Bool) (a : Act) (w : World), m + c = ops.size → n0 ≤ m → listed.size = ops.size → (∀ j, j < ops.size → (listed.getD j false = true ↔ j < m)) → c ≤ fuel →
    wpOps P ops Q (List.range' m c) a w → wpAny P .any ops Q fuel listed a w
  | 0, m, fuel, listed, a, w, hm, _, _, hl, _, h => by
    have hr : Region.ready .any ops listed = [] := by
      rw [List.eq_nil_iff_forall_not_mem]
      intro j hj
      obtain ⟨hu, o, ho, _⟩ := mem_ready.1 hj
      have hjl := (Array.getElem?_eq_some_iff.1 ho).1
      have := (hl j hjl).2 (by omega)
      rw [getD_both hu] at this
      cases this
    cases fuel with
    | zero => exact ⟨hr, by simpa [wpOps] using h⟩
    | succ f => exact ⟨fun _ => by simpa [wpOps] using h, fun i hi => by rw [hr] at hi; cases hi⟩
  | c + 1, m, fuel, listed, a, w, hm, hnm, hs, hl, hf, h => by
    obtain ⟨f, rfl⟩ : ∃ f, fuel = f + 1 := ⟨fuel - 1, by omega⟩
    have hml : m < ops.size := by omega
    have hmu : listed.getD m true = false := getD_in (by omega) (by
      cases hc : listed.getD m false with
      | false => rfl
      | true => exact absurd ((hl m hml).1 hc) (by omega))
    have hready : m ∈ Region.ready .any ops listed := by
      refine mem_ready.2 ⟨hmu, ops[m], by simp [hml], fun e he hb => ?_⟩
      have := F.edge m ops[m] (by simp [hml]) e he hb
      exact (hl e.on (by omega)).2 this
    refine ⟨fun h0 => (by rw [h0] at hready; cases hready), fun i hi => ?_⟩
    obtain ⟨hu, o, ho, hall⟩ := mem_ready.1 hi
    have hil := (Array.getElem?_eq_some_iff.1 ho).1
    have hge : m ≤ i := by
      rcases Nat.lt_or_ge i m with h1 | h1
      · have := (hl i hil).2 h1
        rw [getD_both hu] at this
        cases this
      · exact h1
    have him : i = m := by
      rcases Nat.lt_or_ge m i with h1 | h1
      · exfalso
        have := F.tail i hil (by omega) m h1 (fun k => k < m ∨ k = i) (fun k ok hk hkS e he hb => by
          rcases hkS with h2 | h2
          · exact .inl (Nat.lt_trans (F.edge k ok hk e he hb) h2)
          · subst h2
            have : ok = o := Option.some.inj (hk.symm.trans ho)
            subst this
            have h3 := hall e he hb
            have h4 := F.edge k ok hk e he hb
            exact .inl ((hl e.on (by omega)).1 h3)) (.inr rfl)
        omega
      · omega
    subst him
    rw [List.range'_succ, wpOps_cons] at h
    refine wpOp_mono (fun a' w' h' => any2 F c (i + 1) f _ a' w' (by omega) (by omega) (by simpa using hs) (fun j hj => ?_) (by omega) h') h
    by_cases hji : i = j
    · subst hji
      have : i < listed.size := by omega
      simp [this]
    · rw [getD_set_ne false hji, hl j hj]; omega

theorem any1 (F : Facts ops ks n n0) (hn : a0.tmps.size = n) (hAn : aA.tmps.size = n) (M : Made P ops ks n0 w0 aA obj fin)
    (hA : ∀ t, (∀ j, j < n0 → ks.getD j .alloc = .val → dstOf ops j ≠ some t) → aA.tmps.getD t undef = a0.tmps.getD t undef)
    (hE : ∀ i, i < n0 → ks.getD i .alloc = .val → ∃ o v ai, ops[i]? = some o ∧ Comes1 P ops w0 o ai v ∧ ai.tmps.size = n ∧
        (∀ t j, j < i → ks.getD j .alloc = .val → dstOf ops j = some t → ai.tmps.getD t undef = aA.tmps.getD t undef) ∧
        (∀ t, (∀ j, j < i → ks.getD j .alloc = .val → dstOf ops j ≠ some t) → ai.tmps.getD t undef = a0.tmps.getD t undef) ∧
        (∀ d, o.dst = some d → aA.tmps.getD d undef = v))
    (hend : ∀ β S a w, (∀ i, i < n0 → S i = true) → Inv ops ks n0 w0 a0 aA obj fin β S a w → wpOps P ops Q (List.range' n0 (ops.size - n0)) a w) :
    ∀ (fuel : Nat) (listed : Array Bool) (a : Act) (w : World), listed.size = ops.size → left ops listed ≤ fuel → (∀ i o, ops[i]? = some o → listed.getD i false = true → ∀ e ∈ o.after, Region.binds .any e = true → listed.getD e.on false = true) →
      (∀ i, n0 ≤ i → i < ops.size → listed.getD i false = false) → (∃ β, Inv ops ks n0 w0 a0 aA obj fin β (fun i => listed.getD i false) a w) → wpAny P .any ops Q fuel listed a w := by
  intro fuel
  have n0le := F.n0le
  have phase2 : ∀ (fuel : Nat) (listed : Array Bool) (a : Act) (w : World), listed.size = ops.size → left ops listed ≤ fuel → (∀ i, n0 ≤ i → i < ops.size → listed.getD i false = false) →
      (∃ β, Inv ops ks n0 w0 a0 aA obj fin β (fun i => listed.getD i false) a w) → (∀ i, i < n0 → listed.getD i false = true) → wpAny P .any ops Q fuel listed a w := by
    intro fuel listed a w hs hf ht ⟨β, I⟩ hall
    refine any2 F (ops.size - n0) n0 fuel listed a w (by omega) (Nat.le_refl _) hs (fun j hj => ?_) ?_ (hend β _ a w hall I)
    · rcases Nat.lt_or_ge j n0 with h1 | h1
      · simp [hall j h1, h1]
      · simp only [ht j h1 hj]
        constructor
        · intro h; cases h
        · intro h; omega
    · refine Nat.le_trans ?_ hf
      unfold left
      have hsplit : List.range ops.size = List.range n0 ++ List.range' n0 (ops.size - n0) := by
        have h1 := List.range'_append_1 (s := 0) (m := n0) (n := ops.size - n0)
        rw [Nat.zero_add] at h1
        rw [List.range_eq_range', List.range_eq_range', h1]
        congr 1
        omega
      rw [hsplit, List.countP_append]
      have : (List.range' n0 (ops.size - n0)).countP (fun i => !listed.getD i true) = (List.range' n0 (ops.size - n0)).length := by
        rw [List.countP_eq_length]
        intro i hi
        rw [List.mem_range'_1] at hi
        have h1 := ht i hi.1 (by omega)
        have h2 : i < listed.size := by omega
        rw [getD_in h2 h1]
        rfl
      rw [this]
      simp
  induction fuel with
  | zero =>
    intro listed a w hs hf hcl ht hI
    refine phase2 0 listed a w hs hf ht hI fun i hi => ?_
    cases hc : listed.getD i false with
    | true => rfl
    | false =>
      exfalso
      have h2 : i < listed.size := by omega
      have := left_set (ops := ops) (by omega) hs (getD_in h2 hc)
      omega
  | succ fuel ih =>
    intro listed a w hs hf hcl ht hI
    by_cases hall : ∀ i, i < n0 → listed.getD i false = true
    · exact phase2 (fuel + 1) listed a w hs hf ht hI hall
    · -- the least that is not through is ready
      have hex : ∃ i, i < n0 ∧ listed.getD i false = false := by
        refine Classical.byContradiction fun hno => hall fun i hi => ?_
        cases hc : listed.getD i false with
        | true => rfl
        | false => exact absurd ⟨i, hi, hc⟩ hno
      have hmin : ∀ k i, i ≤ k → i < n0 → listed.getD i false = false → ∃ j, j < n0 ∧ j ∈ Region.ready .any ops listed := by
        intro k
        induction k with
        | zero =>
          intro i hik hi hu
          have hil : i < ops.size := by omega
          refine ⟨i, hi, mem_ready.2 ⟨getD_in (by omega) hu, ops[i], by simp [hil], fun e he hb => ?_⟩⟩
          have := F.edge i ops[i] (by simp [hil]) e he hb
          omega
        | succ k ihk =>
          intro i hik hi hu
          have hil : i < ops.size := by omega
          by_cases hp : ∀ e ∈ ops[i].after, Region.binds .any e = true → listed.getD e.on false = true
          · exact ⟨i, hi, mem_ready.2 ⟨getD_in (by omega) hu, ops[i], by simp [hil], hp⟩⟩
          · have : ∃ e ∈ ops[i].after, Region.binds .any e = true ∧ listed.getD e.on false = false := by
              refine Classical.byContradiction fun hno => hp fun e he hb => ?_
              cases hc : listed.getD e.on false with
              | true => rfl
              | false => exact absurd ⟨e, he, hb, hc⟩ hno
            obtain ⟨e, he, hb, hc⟩ := this
            have := F.edge i ops[i] (by simp [hil]) e he hb
            exact ihk e.on (by omega) (by omega) hc
      obtain ⟨i0, hi0, hu0⟩ := hex
      obtain ⟨j0, hj0, hr0⟩ := hmin i0 i0 (Nat.le_refl _) hi0 hu0
      obtain ⟨β, I⟩ := hI
      refine ⟨fun h0 => (by rw [h0] at hr0; cases hr0), fun i hi => ?_⟩
      obtain ⟨hu, o, ho, hpre⟩ := mem_ready.1 hi
      have hil := (Array.getElem?_eq_some_iff.1 ho).1
      have hin : i < n0 := by
        rcases Nat.lt_or_ge i n0 with h1 | h1
        · exact h1
        · exfalso
          have h2 := F.tail i hil h1 i0 (by omega) (fun k => listed.getD k false = true ∨ k = i) (fun k ok hk hkS e he hb => by
            rcases hkS with h2 | h2
            · exact .inl (hcl k ok hk h2 e he hb)
            · subst h2
              have : ok = o := Option.some.inj (hk.symm.trans ho)
              subst this
              exact .inl (hpre e he hb)) (.inr rfl)
          rcases h2 with h2 | h2
          · rw [hu0] at h2; cases h2
          · omega
      refine wpOp_mono (fun a' w' h' => ih _ a' w' (by simpa using hs) ?_ ?_ ?_ ?_) (step_any F hn hAn M hA hE I (fun i o ho h => hcl i o ho h) ho hin (getD_both hu) hpre)
      · have := left_set (ops := ops) hil hs hu
        omega
      · intro k ok hk hkS e he hb
        by_cases hki : i = k
        · subst hki
          have : ok = o := Option.some.inj (hk.symm.trans ho)
          subst this
          exact getD_set_true (hpre e he hb)
        · rw [getD_set_ne false hki] at hkS
          exact getD_set_true (hcl k ok hk hkS e he hb)
      · intro k hk1 hk2
        rw [getD_set_ne false (by omega)]
        exact ht k hk1 hk2
      · obtain ⟨β', I'⟩ := h'
        refine ⟨β', ?_⟩
        have : (fun k => (listed.setIfInBounds i true).getD k false) = plus (fun k => listed.getD k false) i := by
          funext k
          by_cases hki : i = k
          · subst hki
            have : i < listed.size := by omega
            simp [plus, this]
          · rw [getD_set_ne false hki, plus_ne _ (Ne.symm hki)]
        rw [this]
        exact I'

/-- The frame at the end, in the text's order: the values, then the blocks' addresses. -/
def rput (ops : Array Oper) (ks : List SK) (β : Nat → Nat) (a : Act) (i : Nat) : Act :=
  match ks.getD i .val with
  | .alloc => a.put (dstOf ops i) (.pointer (some ⟨β i, 0, none⟩))
  | .copy j => a.put (dstOf ops i) (.pointer (some ⟨β j, 0, none⟩))
  | _ => a

def finalAct (ops : Array Oper) (ks : List SK) (n0 : Nat) (β : Nat → Nat) (aA : Act) : Act := (List.range n0).foldl (rput ops ks β) aA

theorem rput_size (β : Nat → Nat) (a : Act) (i : Nat) : (rput ops ks β a i).tmps.size = a.tmps.size := by
  unfold rput; split <;> simp [put_size]
theorem rput_defers (β : Nat → Nat) (a : Act) (i : Nat) : (rput ops ks β a i).defers = a.defers := by
  unfold rput; split <;> simp [put_defers']

theorem finalAct_spec (F : Facts ops ks n n0) (hAn : aA.tmps.size = n) (β : Nat → Nat) : ∀ k, k ≤ n0 → ((List.range k).foldl (rput ops ks β) aA).tmps.size = n ∧ ((List.range k).foldl (rput ops ks β) aA).defers = aA.defers ∧
    ∀ t, ((List.range k).foldl (rput ops ks β) aA).tmps.getD t undef = match writer ops n0 t with
      | some j => if j < k then (match ks.getD j .val with
        | .val => aA.tmps.getD t undef
        | .alloc => .pointer (some ⟨β j, 0, none⟩)
        | .copy k => .pointer (some ⟨β k, 0, none⟩)
        | .store _ => aA.tmps.getD t undef) else aA.tmps.getD t undef
      | none => aA.tmps.getD t undef
  | 0, _ => ⟨hAn, rfl, fun t => by cases writer ops n0 t <;> simp⟩
  | k + 1, hk => by
    obtain ⟨h1, h2, h3⟩ := finalAct_spec F hAn β k (by omega)
    rw [List.range_succ, List.foldl_append]
    simp only [List.foldl_cons, List.foldl_nil]
    generalize (List.range k).foldl (rput ops ks β) aA = b at *
    refine ⟨by rw [rput_size]; exact h1, by rw [rput_defers]; exact h2, fun t => ?_⟩
    have hlt : ∀ x, dstOf ops k = some x → x < b.tmps.size := fun x hx => by rw [h1]; exact F.dlt k x (by omega) hx
    have hput : ∀ v, (b.put (dstOf ops k) v).tmps.getD t undef = if dstOf ops k = some t then v else b.tmps.getD t undef := fun v => getD_put _ _ _ _ hlt
    cases hw : writer ops n0 t with
    | none =>
      have hd := writer_none hw k (by omega)
      have := h3 t
      rw [hw] at this
      unfold rput
      split <;> simp only [hput, if_neg hd] <;> exact this
    | some j =>
      obtain ⟨hj, hjd⟩ := writer_some hw
      have h4 := h3 t
      rw [hw] at h4
      simp only [] at h4 ⊢
      by_cases hjk : j = k
      · subst hjk
        rw [if_pos (by omega)]
        rw [if_neg (by omega)] at h4
        unfold rput
        have hp : ∀ v, (b.put (dstOf ops j) v).tmps.getD t undef = v := fun v => by rw [hput, if_pos hjd]
        cases hkj : ks.getD j .val <;> simp only [hp] <;> exact h4
      · have hd : dstOf ops k ≠ some t := fun hd => hjk (F.uniq j k t hj (by omega) hjd hd)
        have hb : (rput ops ks β b k).tmps.getD t undef = b.tmps.getD t undef := by
          unfold rput
          split <;> simp only [hput, if_neg hd]
        rw [hb, h4]
        by_cases hlt' : j < k
        · rw [if_pos hlt', if_pos (by omega)]
        · rw [if_neg hlt', if_neg (by omega)]

theorem act_ext {a b : Act} (hs : a.tmps.size = b.tmps.size) (hd : a.defers = b.defers) (h : ∀ t, a.tmps.getD t undef = b.tmps.getD t undef) : a = b := by
  obtain ⟨ta, da⟩ := a
  obtain ⟨tb, db⟩ := b
  simp only at hs hd h
  subst hd
  congr 1
  refine Array.ext hs fun i h1 h2 => ?_
  have := h i
  simp only [Array.getD, h1, h2, dif_pos] at this
  exact this

/-- **A region that draws its order**: values in any order, blocks made, filled and handed on; behind them what is forced. -/
theorem wp_region_mix {id : Nat} {w : World} (ks : List SK) (n0 : Nat) (hm : P.follows .mixedOrders = true) (hok : okMix ops ks a0.tmps.size n0 (anc ops.toList []) = true)
    (hev : evA P ops w ks (fun aA => ∃ obj fin : Nat → Obj, Made P ops ks n0 w aA obj fin ∧ ∀ (β : Nat → Nat) (w' : World), Below w.heap.size w w' →
      (∀ i, i < n0 → ks.getD i .val = .alloc → w.heap.size ≤ β i ∧ β i < w'.heap.size ∧ w'.heap[β i]? = some (if stored ks (fun _ => true) i then fin i else obj i)) →
      (∀ i j, i < n0 → j < n0 → ks.getD i .val = .alloc → ks.getD j .val = .alloc → β i = β j → i = j) →
      wpOps P ops Q (List.range' n0 (ops.size - n0)) (finalAct ops ks n0 β aA) w') (List.range' 0 n0) a0) : (Code.region id ops true).wp P Q a0 w := by
  have F := facts_of hok
  obtain ⟨aA, ⟨obj, fin, M, hK⟩, hdf, hsz, hA, hE⟩ := evA_spec F n0 0 a0 (by omega) rfl hev
  refine wp_region_any hm ?_
  have hlow : Below w.heap.size w { w with drawn := w.drawn + 1 } := (Below.refl w.heap.size w).drew
  refine any1 (w0 := w) F rfl hsz M (fun t ht => hA t fun j _ hj => ht j hj) (fun i hi hk => ?_) ?_ ops.size _ a0 _ (by simp) ?_ ?_ ?_ ⟨fun _ => 0, ?_⟩
  · obtain ⟨o, v, ai, h1, h2, h3, h4, h5, h6⟩ := hE i (Nat.zero_le _) hi hk
    exact ⟨o, v, ai, h1, h2, h3, fun t j hj => h4 t j (Nat.zero_le _) hj, fun t ht => h5 t fun j _ hj => ht j hj, h6⟩
  · intro β S a w' hS I
    have hst : ∀ i, stored ks S i = stored ks (fun _ => true) i := by
      intro i
      unfold stored
      rw [Bool.eq_iff_iff]
      simp only [List.any_eq_true, List.mem_range, Bool.and_eq_true, decide_eq_true_eq]
      constructor
      · rintro ⟨j, h1, h2, _⟩; exact ⟨j, h1, h2, trivial⟩
      · rintro ⟨j, h1, h2, _⟩; exact ⟨j, h1, h2, hS j (by rw [← F.klen]; exact h1)⟩
    have hfa : a = finalAct ops ks n0 β aA := by
      obtain ⟨f1, f2, f3⟩ := finalAct_spec F hsz β n0 (Nat.le_refl _)
      refine act_ext (by rw [I.asz]; exact f1.symm) (by rw [I.adf, ← hdf]; exact f2.symm) fun t => ?_
      unfold finalAct
      rw [I.at_ t, f3 t]
      unfold slot
      cases hw : writer ops n0 t with
      | none => exact (hA t fun j _ hj _ hjd => writer_none hw j hj hjd).symm
      | some j =>
        obtain ⟨hj, hjd⟩ := writer_some hw
        simp only [hS j hj, if_true, if_pos hj]
        cases hk : ks.getD j .val with
        | val => rfl
        | alloc => rfl
        | copy => rfl
        | store k =>
          exfalso
          have hjl : j < ops.size := Nat.lt_of_lt_of_le hj F.n0le
          obtain ⟨_, hdn, _⟩ := F.store j ops[j] k hj (by simp [hjl]) (by rw [getD_kind F hj _ .val]; exact hk)
          rw [dstOf_eq (o := ops[j]) (by simp [hjl]), hdn] at hjd
          cases hjd
    rw [hfa]
    refine hK β w' I.low (fun i hi hk => ?_) (fun i j hi hj hki hkj => I.inj i j hi hj hki hkj (hS i hi) (hS j hj))
    have := I.fresh i hi hk (hS i hi)
    rw [hst] at this
    exact this
  · unfold left
    exact Nat.le_trans List.countP_le_length (by simp)
  · intro i o _ h
    rw [getD_replicate_false] at h
    cases h
  · intro i _ _
    exact getD_replicate_false _ _
  · refine ⟨rfl, rfl, fun t => ?_, hlow, fun i _ _ h => ?_, fun i j _ _ _ _ h => ?_⟩
    · unfold slot
      cases writer ops n0 t with
      | none => rfl
      | some j => simp only [getD_replicate_false]; rfl
    · rw [getD_replicate_false] at h; cases h
    · rw [getD_replicate_false] at h; cases h
end step

end
end Go.Mix
