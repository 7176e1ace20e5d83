/- Stepping a function: what machine numbers come to, by name; strings. -/
import Derived.Test.YtbonnnakebfniaaDoorSw
namespace Go.Mx
open Go Go.RowKit

def iAdd (k : IntKind) (a b : Int) : Int := k.wrap (a + b)
def iSub (k : IntKind) (a b : Int) : Int := k.wrap (a - b)
def iMul (k : IntKind) (a b : Int) : Int := k.wrap (a * b)
def iAnd (k : IntKind) (a b : Int) : Int := k.wrap (BitVec.ofInt k.bits a &&& BitVec.ofInt k.bits b).toNat
def iOr (k : IntKind) (a b : Int) : Int := k.wrap (BitVec.ofInt k.bits a ||| BitVec.ofInt k.bits b).toNat
def iXor (k : IntKind) (a b : Int) : Int := k.wrap (BitVec.ofInt k.bits a ^^^ BitVec.ofInt k.bits b).toNat
def iShl (k : IntKind) (a : Int) (n : Nat) : Int := k.wrap (a * 2 ^ (min n k.bits))
def iShr (k : IntKind) (a : Int) (n : Nat) : Int := a.fdiv (2 ^ (min n k.bits))
def iCut (k : IntKind) (a : Int) : Int := k.wrap a

theorem u8_bd (a : Int) : 0 ≤ iCut .u8 a ∧ iCut .u8 a < 256 := by
  unfold iCut
  rw [IntKind.wrap_u8]
  omega

section
variable {P : Program} {ops : Array Oper} {w0 w : World} {S : List Nat} {m : List Cl} {o : Oper} {ρ : Operand → Value}

/-- A string's byte. -/
def sByte (s : ByteArray) (i : Nat) : Int := ((s.data.toList.getD i 0).toNat : Int)

theorem g_indexS {t : TypeId} {x i : Operand} {s : ByteArray} {kk : IntKind} (j : Nat) (ho : o.op = .index t x i) (hx : ρ x = .string s) (hi : ρ i = .int kk (j : Int)) (hu : P.underlying t = some .string) (hj : j < s.size) : GV P w0 S m o ρ (.int .u8 (sByte s j)) :=
  g_index ho hx hi fun w => by
    have h1 : (0 : Int) ≤ (j : Int) := by omega
    have hj' : j < s.data.toList.length := by simpa using hj
    have e : s[j]? = some (s.data.toList.getD j 0) := by
      rw [getElem?_pos s j hj]
      congr 1
      rw [List.getD_eq_getElem?_getD, List.getElem?_eq_getElem hj']
      rfl
    simp only [Instr.index, asIntOf, Sem.run_bind, Sem.run_pure, Result.andThen_ok, run_underlying hu w, if_pos h1, Int.toNat_natCast, e]
    rfl

/-- Two strings, one behind the other. -/
theorem g_catS {t u : TypeId} {x y : Operand} {a b : ByteArray} (ho : o.op = .binOp .add t x y u) (hx : ρ x = .string a) (hy : ρ y = .string b) (hl : a.size + b.size ≤ 9223372036854775807) : GV P w0 S m o ρ (.string (a ++ b)) :=
  g_binOp ho hx hy fun w => by
    simp [eqGuard, binOp, Op.stringOp]
    omega

/-- A piece of a string. -/
theorem g_sliceS {t : TypeId} {x : Operand} {lo hi : Option Operand} {s : ByteArray} (l h : Nat) (ho : o.op = .slice t x lo hi none) (hx : ρ x = .string s) (hu : P.underlying t = some .string) (hl : ∀ y, lo = some y → ∃ k, ρ y = .int k (l : Int)) (hl0 : lo = none → l = 0) (hh : ∀ y, hi = some y → ∃ k, ρ y = .int k (h : Int)) (hh0 : hi = none → h = s.size) (h1 : l ≤ h) (h2 : h ≤ s.size) : GV P w0 S m o ρ (.string (s.extract l h)) :=
  g_run fun w => by
    have e1 : ∀ (y : Nat) (c : BoundsCode) (v : Value), (∃ k, v = .int k (h : Int)) → h ≤ y → (Instr.sliceBound v y c).run P w = .ok h w := fun y c v ⟨k, hv⟩ hy => run_sliceBound hv rfl hy
    have e2 : ∀ (y : Nat) (c : BoundsCode) (v : Value), (∃ k, v = .int k (l : Int)) → l ≤ y → (Instr.sliceBound v y c).run P w = .ok l w := fun y c v ⟨k, hv⟩ hy => run_sliceBound hv rfl hy
    have hnu : ∀ n e, P.underlying t ≠ some (.array n e) := fun n e h => by rw [hu] at h; cases h
    have hr : (Instr.sliceAt t (.string s) (lo.map ρ) (hi.map ρ) none).run P w = .ok (.string (s.extract l h)) w := by
      cases lo with
      | none =>
        cases hi with
        | none =>
          obtain rfl := hl0 rfl
          obtain rfl := hh0 rfl
          simp [Instr.sliceAt, Instr.slice, Sem.run_bind, run_underlying hu w, Result.andThen_ok, Instr.sliceBounds]
        | some y =>
          obtain rfl := hl0 rfl
          simp [Instr.sliceAt, Instr.slice, Sem.run_bind, run_underlying hu w, Result.andThen_ok, Instr.sliceBounds, e1 _ _ _ (hh y rfl) h2]
      | some x =>
        cases hi with
        | none =>
          obtain rfl := hh0 rfl
          simp [Instr.sliceAt, Instr.slice, Sem.run_bind, run_underlying hu w, Result.andThen_ok, Instr.sliceBounds, e2 _ _ _ (hl x rfl) h1]
        | some y =>
          simp [Instr.sliceAt, Instr.slice, Sem.run_bind, run_underlying hu w, Result.andThen_ok, Instr.sliceBounds, e1 _ _ _ (hh y rfl) h2, e2 _ _ _ (hl x rfl) h1]
    have hr' : (execOp ρ o).run P w = .ok (.value (.string (s.extract l h))) w := by
      simp only [execOp, ho, hx, Sem.run_bind]
      rw [show (Option.map ρ none : Option Value) = none from rfl, hr]
      rfl
    exact hr'

end

section
variable {P : Program} {ops : Array Oper} {Q : Exit → Act → World → Prop} {A : Act} {n : Nat} {rest : List Oper} {o : Oper} {ps : Puts} {w0 w : World} {S : List Nat} {m : List Cl} {ρ : Operand → Value}

/-- 'copy' between slices of known blocks, elements of one cell. -/
theorem T_copy {x y : Operand} {t t' elem : TypeId} {b off dl dc b' off' sl sc : Nat} {c src c' : Array Value} {T T' : TypeId} {rw : Bool} (i j : Nat) (k : Nat) (d : Tmp) (hn : A.tmps.size = n) (hM : Mem w0 S w m) (hb : okB n ps = true) (hg : o.guard = none) (hd : o.dst = some d)
    (ho : o.op = .call { callee := .builtin .copy, args := #[x, y], argTypes := #[t, t'] }) (hx : ev A ps x = .slice (some ⟨b, off, none⟩) dl dc) (hy : ev A ps y = .slice (some ⟨b', off', none⟩) sl sc) (hu : P.underlying t = some (.slice elem)) (hs : ∀ w, (Go.sizeOf elem).run P w = .ok 1 w)
    (hi : m[i]? = some ⟨b, c, T, true⟩) (hj : m[j]? = some ⟨b', src, T', rw⟩) (hk : Nat.min sl dl = k) (hfs : Nat.ble (off' + k) src.toList.length = true) (hfd : Nat.ble (off + k) c.toList.length = true) (h1 : ((src.toList.drop off').take k).all (·.oneCell') = true)
    (hc' : c.toList.take off ++ (src.toList.drop off').take k ++ c.toList.drop (off + k) = c'.toList)
    (h : ∀ w', Mem w0 S w' (m.set i ⟨b, c', T, true⟩) → wpList P ops Q rest (putAll A ((d, .int .i64 (k : Int)) :: ps)) w') : wpList P ops Q (o :: rest) (putAll A ps) w := by
  have hfs' : off' + k ≤ src.toList.length := by simpa using hfs
  have hfd' : off + k ≤ c.size := by simpa using hfd
  have hlen : ((src.toList.drop off').take k).length = k := by rw [List.length_take, List.length_drop]; omega
  have hh := hM.get i hi
  have hh' := hM.get j hj
  simp only at hh hh'
  have hl := run_firstCells_some (P := P) w 1 k ⟨b', off', none⟩ sl sc ((src.toList.drop off').take k) (by rw [hlen, Nat.mul_one]) (fun q v hv => by
    rw [Addr.add_mid]
    exact rangeAt_of_heap hh' (cs := (src.toList.drop off').take k) (by rw [hlen]) q v hv)
  have hst : (storeCells ⟨b, off, none⟩ ((src.toList.drop off').take k)).run P w = .ok () (w.setCells b off ((src.toList.drop off').take k)) := by
    have := run_storeCells_cells (P := P) b off ((src.toList.drop off').take k) 0 w (fun q hq => by
      have hlt : off + q < c.size := by omega
      unfold World.cell?; simp [hh, hlt]) (fun q hq => by unfold World.frozen?; simp [hh]) (List.all_eq_true.1 h1)
    simpa using this
  have hsp : splice c off ((src.toList.drop off').take k) = c' := by rw [← Array.toList_inj, splice_eq _ _ _ (by omega), hlen, hc']
  rw [setCells_eq b T (0, 0) _ off w c hh, hsp] at hst
  unfold wpList
  rw [if_pos (by simp [Region.wanted, hg])]
  refine .inl ?_
  unfold Oper.wp
  rw [ev_ps hn hb]
  have hrun : (execOp (ev A ps) o).run P w = .ok (.value (.int .i64 (k : Int))) { w with heap := w.heap.setIfInBounds b (.cells c' T (0, 0)) } := by
    rw [run_builtin ho (vs := #[.slice (some ⟨b, off, none⟩) dl dc, .slice (some ⟨b', off', none⟩) sl sc]) (by simp [hx, hy])]
    simp [builtin, Builtin.copy_, Sem.run_bind, run_underlying hu w, Builtin.lenOf, hs w, hk, hl, hst, goInt, Result.andThen]
  rw [hrun]
  simp only [Oper.upon, hd]
  exact h _ (hM.put i hi rfl c')

theorem subN {k : IntKind} (a b : Nat) (h : b ≤ a) (hb : a < 2 ^ bitsOf k := by simp only [bitsOf]; omega) : intV .sub k (a : Int) (b : Int) = .int k ((a - b : Nat) : Int) := by
  simp only [intV]
  rw [show (a : Int) - (b : Int) = ((a - b : Nat) : Int) by omega, wrap_nat (by omega)]

/-- The way in: a block that may be written, and one that may only be read. -/
theorem Mem.mixed (w : World) {a b : Nat} {c d : Array Value} {T U : TypeId} (h : w.heap[a]? = some (.cells c T (0, 0))) (k : w.heap[b]? = some (.cells d U (0, 0))) (hne : a ≠ b) : Mem w [a] w [⟨a, c, T, true⟩, ⟨b, d, U, false⟩] :=
  ((Mem.startS w [a]).take k (fun h => (by cases h)) (by simp)).take h (fun _ => .inl (by simp)) (by simpa using hne)

/-- A value at once, in this very world. -/
theorem T_valW {v : Value} (d : Tmp) (hn : A.tmps.size = n) (hb : okB n ps = true) (hd : o.dst = some d) (hw : wantedE ops A ps o = true) (hg : (execOp (ev A ps) o).run P w = .ok (.value v) w)
    (h : wpList P ops Q rest (putAll A ((d, v) :: ps)) w) : wpList P ops Q (o :: rest) (putAll A ps) w := by
  unfold wpList
  rw [if_pos (wanted_of_E (okB_mem hn hb) hw)]
  refine .inl ?_
  unfold Oper.wp
  rw [ev_ps hn hb, hg]
  simp only [Oper.upon, hd]
  exact h

/-- A string as a slice of bytes: a new row, its room drawn; a mark lies behind it. -/
theorem T_strBytes {src dst e : TypeId} {x : Operand} {s : ByteArray} (d : Tmp) (hn : A.tmps.size = n) (hM : Mem w0 S w m) (hb : okB n ps = true) (hd : o.dst = some d) (hg : o.guard = none) (ho : o.op = .convert src dst x) (hx : ev A ps x = .string s) (hs : P.underlying src = some .string) (hu : P.underlying dst = some (.slice e)) (he : P.underlying e = some (.int .u8))
    (h : ∀ b cap c fr w', (∀ i, i < s.size → c[i]? = some (.int .u8 (sByte s i))) → w'.heap[b]? = some (.cells c e fr) → Mem w0 S w' m → wpList P ops Q rest (putAll A ((d, .slice (some ⟨b, 0, none⟩) s.size cap) :: ps)) w') : wpList P ops Q (o :: rest) (putAll A ps) w := by
  unfold wpList
  rw [if_pos (by simp [Region.wanted, hg])]
  refine .inl ?_
  unfold Oper.wp
  rw [ev_ps hn hb]
  have hr := run_bytes_of_string (P := P) w src dst e s hs hu he
  have hrun : (execOp (ev A ps) o).run P w = .ok (.value (.slice (some ⟨w.heap.size, 0, none⟩) s.size (grownCap w s.size 0 e))) (w.drew.alloc (.cells (bytesRow s (grownCap w s.size 0 e)) e ((bytesRow s (grownCap w s.size 0 e)).size, (bytesRow s (grownCap w s.size 0 e)).size + 1))) := by
    simp only [execOp, ho, hx, Sem.run_bind, hr, Result.andThen_ok]; rfl
  rw [hrun]
  simp only [Oper.upon, hd]
  refine h w.heap.size (grownCap w s.size 0 e) (bytesRow s (grownCap w s.size 0 e)) ((bytesRow s (grownCap w s.size 0 e)).size, (bytesRow s (grownCap w s.size 0 e)).size + 1) _ (fun i hi => ?_) ?_ (hM.low (((Below.refl w.heap.size w).drew).alloc (Nat.le_refl _) _))
  · have hi' : i < s.data.size := hi
    unfold bytesRow sByte
    rw [Array.getElem?_append_left (by simpa using hi'), Array.getElem?_map, Array.getElem?_eq_getElem hi', List.getD_eq_getElem?_getD, Array.getElem?_toList, Array.getElem?_eq_getElem hi']
    rfl
  · show (w.heap.push _)[w.heap.size]? = _
    rw [Array.getElem?_push_size]

/-- Such a row, read as an array. -/
theorem run_loadF {ty : TypeId} {x : Operand} {b n : Nat} {c : Array Value} {T : TypeId} {fr : Nat × Nat} {d : TypeDesc} {s : ByteArray} (ho : o.op = .load ty x) (hx : ρ x = .pointer (some ⟨b, 0, none⟩)) (hh : w.heap[b]? = some (.cells c T fr)) (hc : ∀ i, i < s.size → c[i]? = some (.int .u8 (sByte s i))) (hn : n ≤ s.size)
    (hu : P.underlying ty = some d) (hd : d.isRow = true) (hs : (P.info? ty).map (·.size) = some n) : (execOp ρ o).run P w = .ok (.value (.agg (arr .u8 n (sByte s)))) w := by
  have hcs : (c.toList.drop 0).take (arr .u8 n (sByte s)).toList.length = (arr .u8 n (sByte s)).toList := by
    rw [arr_len, List.drop_zero]
    refine List.ext_getElem? fun i => ?_
    by_cases hi : i < n
    · rw [List.getElem?_take_of_lt hi]
      have h1 := hc i (by omega)
      have h2 := arr_get (k := .u8) (f := sByte s) hi
      rw [← Array.getElem?_toList] at h1 h2
      rw [h1, h2]
    · rw [List.getElem?_eq_none (by rw [List.length_take]; omega), List.getElem?_eq_none (by rw [arr_len]; omega)]
  have := run_loadAt_mid (P := P) w b 0 ty (arr .u8 n (sByte s)).toList d (rangeAt_of_heap hh hcs) hu hd (by rw [arr_len]; exact hs)
  simp only [execOp, ho, hx, Sem.run_bind, this, Result.andThen_ok]; rfl

/-- A new builder. -/
theorem T_allocB {T e : TypeId} (d : Tmp) (hn : A.tmps.size = n) (hM : Mem w0 S w m) (hb : okB n ps = true) (hd : o.dst = some d) (hg : o.guard = none) (ho : o.op = .alloc T) (hz : ∀ w, (zeroValue T).run P w = .ok (.agg #[.pointer none, .slice none 0 0]) w)
    (h : ∀ b w', w0.heap.size ≤ b → (∀ c ∈ m, c.b < b) → b ≤ w'.heap.size → Lib.IsBuilder T e b b [] w' → Mem w0 S w' m → wpList P ops Q rest (putAll A ((d, .pointer (some ⟨b, 0, none⟩)) :: ps)) w') : wpList P ops Q (o :: rest) (putAll A ps) w := by
  unfold wpList
  rw [if_pos (by simp [Region.wanted, hg])]
  refine .inl ?_
  unfold Oper.wp
  rw [ev_ps hn hb]
  have hrun : (execOp (ev A ps) o).run P w = .ok (.value (.pointer (some ⟨w.heap.size, 0, none⟩))) (w.alloc (.cells #[.pointer none, .slice none 0 0] T (0, 0))) := by
    simp only [execOp, ho, Instr.alloc, Sem.run_bind, hz w, Result.andThen_ok]; rfl
  rw [hrun]
  simp only [Oper.upon, hd]
  exact h _ _ hM.size (fun c hc => hM.lt hc) (by simp) (Lib.fresh_isBuilder T e w) (hM.low ((Below.refl _ _).alloc (Nat.le_refl _) _))

theorem Mem.lowB {w' : World} {B : Nat} (h : Mem w0 S w m) (hB : w0.heap.size ≤ B) (hlt : ∀ c ∈ m, c.b < B) (hb : Below B w w') : Mem w0 S w' m :=
  ⟨fun c hc => by rw [hb.block _ (hlt c hc)]; exact h.at_ c hc, h.nd, h.own, fun k hk hs => by rw [hb.block _ (Nat.lt_of_lt_of_le hk hB)]; exact h.keep k hk hs, Nat.le_trans h.size hb.size,
    hb.os.trans h.os, hb.tape.trans h.tape, hb.output.trans h.output⟩

/-- A call by whatever contract: what is behind it is for the caller to say. -/
theorem T_callX {f : FuncId} {fn : Func} {ags : Array Operand} {ts : Array TypeId} {vs : Array Value} {v : Value} {K : World → Prop} (d : Tmp) (hn : A.tmps.size = n) (hb : okB n ps = true) (hd : o.dst = some d) (hw : wantedE ops A ps o = true)
    (ho : o.op = .call { callee := .value (.func f), args := ags, argTypes := ts }) (ha' : ags.toList.map (ev A ps) = vs.toList) (hfn : P.funcs[f]? = some fn) (hng : (fn.name == "runtime.NumGoroutine") = false) (hbn : fn.body.isNone = false)
    (hc : Calls P f vs w fun e w' => e = .returned v ∧ K w')
    (h : ∀ w', K w' → wpList P ops Q rest (putAll A ((d, v) :: ps)) w') : wpList P ops Q (o :: rest) (putAll A ps) w := by
  have ha : ags.map (ev A ps) = vs := by rw [← Array.toList_inj, Array.toList_map]; exact ha'
  have hne : ¬ fn.name = "runtime.NumGoroutine" := by simpa using hng
  have hbn' : ¬ fn.body = none := fun h => by rw [h] at hbn; cases hbn
  unfold wpList
  rw [if_pos (wanted_of_E (okB_mem hn hb) hw)]
  refine .inl ?_
  unfold Oper.wp
  rw [ev_ps hn hb]
  have hrun : (execOp (ev A ps) o).run P w = .ok (.enter f vs) w := by
    have hf : ev A ps (.func f) = .func (.func f) #[] #[] := rfl
    simp [execOp, ho, resolve, hf, ha, Deferred.ofValue, invoke, callFunc, hfn, hne, hbn', Sem.run_bind, Result.andThen]
  rw [hrun]
  simp only [Oper.upon]
  refine hc.mono ?_
  rintro e w' ⟨rfl, hK⟩
  rw [hd]
  exact h w' hK

end
end Go.Mx
