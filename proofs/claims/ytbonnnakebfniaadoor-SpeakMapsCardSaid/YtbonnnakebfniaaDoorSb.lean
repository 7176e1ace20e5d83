/- Stepping a function: arrays of numbers given by a function; bits; strings of bytes. -/
import Derived.Test.YtbonnnakebfniaaDoorSe
import Derived.Laws.BytesString
import Derived.Laws.IdiomStrings
namespace Go.Mx
open Go Go.RowKit

/-! ### Arrays by a function -/
def arr (k : IntKind) (n : Nat) (f : Nat → Int) : Array Value := ((List.range n).map fun i => Value.int k (f i)).toArray
def arrB (n : Nat) (f : Nat → Bool) : Array Value := ((List.range n).map fun i => Value.bool (f i)).toArray
def upd {α : Type} (f : Nat → α) (i : Nat) (v : α) : Nat → α := fun j => if j = i then v else f j

section
variable {k : IntKind} {n j : Nat} {f g : Nat → Int}
theorem arr_size : (arr k n f).size = n := by simp [arr]
theorem arr_len : (arr k n f).toList.length = n := by simp [arr]
theorem arr_get (h : j < n) : (arr k n f)[j]? = some (.int k (f j)) := by simp [arr, h]
theorem arr_set {v : Int} (_h : j < n) : (arr k n f).toList.set j (.int k v) = (arr k n (upd f j v)).toList := by
  refine List.ext_getElem? fun i => ?_
  simp only [arr, upd, List.getElem?_set, List.getElem?_map, List.length_map, List.length_range]
  by_cases hji : j = i
  · subst hji; simp [_h]
  · rw [if_neg hji]
    by_cases hi : i < n
    · simp [hi, Ne.symm hji]
    · simp [hi]
theorem arr_congr (h : ∀ i, i < n → f i = g i) : arr k n f = arr k n g := by
  unfold arr
  congr 1
  refine List.map_congr_left fun i hi => ?_
  rw [h i (List.mem_range.1 hi)]
theorem arr_ones : (arr k n f).toList.all (·.oneCell') = true := by
  rw [List.all_eq_true]
  intro x hx
  simp only [arr] at hx
  obtain ⟨i, _, rfl⟩ := List.mem_map.1 hx
  rfl
theorem arr_map : (((List.range n).map f).map (Value.int k)).toArray = arr k n f := by simp [arr, Function.comp_def]
theorem arrB_size {f : Nat → Bool} : (arrB n f).size = n := by simp [arrB]
theorem arrB_len {f : Nat → Bool} : (arrB n f).toList.length = n := by simp [arrB]
theorem arrB_get {f : Nat → Bool} (h : j < n) : (arrB n f)[j]? = some (.bool (f j)) := by simp [arrB, h]
theorem arrB_set {f : Nat → Bool} {v : Bool} (_h : j < n) : (arrB n f).toList.set j (.bool v) = (arrB n (upd f j v)).toList := by
  refine List.ext_getElem? fun i => ?_
  simp only [arrB, upd, List.getElem?_set, List.getElem?_map, List.length_map, List.length_range]
  by_cases hji : j = i
  · subst hji; simp [_h]
  · rw [if_neg hji]
    by_cases hi : i < n
    · simp [hi, Ne.symm hji]
    · simp [hi]
theorem arrB_congr {f g : Nat → Bool} (h : ∀ i, i < n → f i = g i) : arrB n f = arrB n g := by
  unfold arrB
  congr 1
  refine List.map_congr_left fun i hi => ?_
  rw [h i (List.mem_range.1 hi)]
end

/-! ### Numbers by their bits -/
/-- The number of the first n bits. -/
def val (β : Nat → Bool) : Nat → Nat
  | 0 => 0
  | n + 1 => val β n ||| ((β n).toNat <<< n)

theorem toNat_testBit (b : Bool) (i : Nat) : b.toNat.testBit i = (decide (i = 0) && b) := by
  cases b
  · simp
  · cases i <;> simp [Nat.testBit_succ]

theorem val_bit (β : Nat → Bool) (n j : Nat) : (val β n).testBit j = (decide (j < n) && β j) := by
  induction n with
  | zero => simp [val]
  | succ n ih =>
    rw [val, Nat.testBit_or, ih, Nat.testBit_shiftLeft, toNat_testBit]
    by_cases h1 : j < n
    · have h2 : j < n + 1 := by omega
      have h3 : ¬ n ≤ j := by omega
      simp [h1, h2, h3]
    · by_cases h2 : j = n
      · subst h2; simp
      · have h3 : ¬ j < n + 1 := by omega
        have h4 : j - n ≠ 0 := by omega
        simp [h1, h3, h4]

theorem val_all {x n : Nat} (h : x < 2 ^ n) : val x.testBit n = x := by
  refine Nat.eq_of_testBit_eq fun j => ?_
  rw [val_bit]
  by_cases hj : j < n
  · simp [hj]
  · have : x.testBit j = false := Nat.testBit_lt_two_pow (Nat.lt_of_lt_of_le h (Nat.pow_le_pow_right (by decide) (by omega)))
    simp [this]

/-- The q-th digit of w bits. -/
def dg (w x q : Nat) : Nat := (x >>> (w * q)) % 2 ^ w

theorem dg_bit (w x q i : Nat) : (dg w x q).testBit i = (decide (i < w) && x.testBit (w * q + i)) := by
  rw [dg, Nat.testBit_mod_two_pow, Nat.testBit_shiftRight]

theorem dg_lt (w x q : Nat) : dg w x q < 2 ^ w := Nat.mod_lt _ (Nat.two_pow_pos w)

/-- One bit more, in its digit. -/
theorem dg_val_self {w n : Nat} (β : Nat → Bool) (hw : 0 < w) : dg w (val β (n + 1)) (n / w) = dg w (val β n) (n / w) ||| ((β n).toNat <<< (n % w)) := by
  refine Nat.eq_of_testBit_eq fun i => ?_
  have hn := Nat.div_add_mod n w
  have hm := Nat.mod_lt n hw
  rw [Nat.testBit_or, dg_bit, dg_bit, val_bit, val_bit, Nat.testBit_shiftLeft, toNat_testBit]
  by_cases h1 : i = n % w
  · subst h1
    rw [hn]
    simp [hm]
  · by_cases hi : i < w
    · have e : decide (w * (n / w) + i < n + 1) = decide (w * (n / w) + i < n) := by
        refine decide_eq_decide.2 ?_
        omega
      have e2 : (decide (i ≥ n % w) && (decide (i - n % w = 0) && β n)) = false := by
        by_cases h2 : i ≥ n % w
        · have : i - n % w ≠ 0 := by omega
          simp [this]
        · simp [h2]
      rw [e, e2]
      simp [hi]
    · have e2 : (decide (i ≥ n % w) && (decide (i - n % w = 0) && β n)) = false := by
        have : i - n % w ≠ 0 := by omega
        simp [this]
      rw [e2]
      simp [hi]

theorem dg_val_other {w n q : Nat} (β : Nat → Bool) (hw : 0 < w) (hq : q ≠ n / w) : dg w (val β (n + 1)) q = dg w (val β n) q := by
  refine Nat.eq_of_testBit_eq fun i => ?_
  rw [dg_bit, dg_bit, val_bit, val_bit]
  by_cases hi : i < w
  · have e : decide (w * q + i < n + 1) = decide (w * q + i < n) := by
      refine decide_eq_decide.2 ⟨fun h => ?_, fun h => by omega⟩
      rcases Nat.lt_or_ge (w * q + i) n with h1 | h1
      · exact h1
      · exfalso
        have : w * q + i = n := by omega
        apply hq
        rw [← this, Nat.mul_add_div hw, Nat.div_eq_of_lt hi, Nat.add_zero]
    rw [e]
  · simp [hi]

theorem dg_val_upd {w n : Nat} (β : Nat → Bool) (hw : 0 < w) : ∀ q, upd (fun q => ((dg w (val β n) q : Nat) : Int)) (n / w) ((dg w (val β n) (n / w) ||| ((β n).toNat <<< (n % w)) : Nat) : Int) q = ((dg w (val β (n + 1)) q : Nat) : Int) := by
  intro q
  unfold upd
  by_cases h : q = n / w
  · subst h; rw [if_pos rfl, dg_val_self β hw]
  · rw [if_neg h, dg_val_other β hw h]

/-- A digit's bit. -/
theorem dg_shr_bit {w x j : Nat} (hw : 0 < w) : (dg w x (j / w) >>> (j % w)) % 2 = (x.testBit j).toNat := by
  have h : (dg w x (j / w) >>> (j % w)).testBit 0 = x.testBit j := by
    rw [Nat.testBit_shiftRight, dg_bit, Nat.add_zero, Nat.div_add_mod]
    simp [Nat.mod_lt j hw]
  rw [Nat.testBit_zero] at h
  rw [← h]
  rcases Nat.mod_two_eq_zero_or_one (dg w x (j / w) >>> (j % w)) with h1 | h1 <;> simp [h1]

/-! ### What single operations come to, on numbers that are not negative -/
def bitsOf : IntKind → Nat
  | .i8 => 7 | .i16 => 15 | .i32 => 31 | .i64 => 63 | .u8 => 8 | .u16 => 16 | .u32 => 32 | .u64 => 64

theorem wrap_nat {k : IntKind} {a : Nat} (h : a < 2 ^ bitsOf k) : k.wrap (a : Int) = a := by
  cases k <;> simp only [bitsOf] at h <;> simp [IntKind.wrap, IntKind.bits, IntKind.signed] <;> omega

theorem quo_nat {k : IntKind} (a b : Nat) (h : a < 2 ^ bitsOf k) : k.wrap (Int.tdiv (a : Int) (b : Int)) = ((a / b : Nat) : Int) := by
  rw [← Int.ofNat_tdiv]
  exact wrap_nat (Nat.lt_of_le_of_lt (Nat.div_le_self a b) h)
theorem rem_nat (a b : Nat) : Int.tmod (a : Int) (b : Int) = ((a % b : Nat) : Int) := (Int.ofNat_tmod a b).symm

theorem shr_nat {k : IntKind} (a n : Nat) (hn : n ≤ k.bits) : Int.fdiv (a : Int) (2 ^ (min n k.bits)) = ((a >>> n : Nat) : Int) := by
  rw [Nat.min_eq_left hn, Int.fdiv_eq_ediv_of_nonneg _ (by exact Int.pow_nonneg (by decide)), Nat.shiftRight_eq_div_pow]
  norm_cast

theorem shl_nat {k : IntKind} (a n : Nat) (hn : n ≤ k.bits) (h : a <<< n < 2 ^ bitsOf k) : k.wrap ((a : Int) * 2 ^ (min n k.bits)) = ((a <<< n : Nat) : Int) := by
  rw [Nat.min_eq_left hn]
  have : (a : Int) * 2 ^ n = ((a <<< n : Nat) : Int) := by rw [Nat.shiftLeft_eq]; norm_cast
  rw [this]
  exact wrap_nat h

theorem ofInt_nat {n a : Nat} : BitVec.ofInt n (a : Int) = BitVec.ofNat n a := BitVec.ofInt_natCast n a

theorem and_nat {k : IntKind} (a b : Nat) (ha : a < 2 ^ bitsOf k) (hb : b < 2 ^ bitsOf k) : intV .and k (a : Int) (b : Int) = .int k ((a &&& b : Nat) : Int) := by
  have hk : bitsOf k ≤ k.bits := by cases k <;> decide
  have e : 2 ^ bitsOf k ≤ 2 ^ k.bits := Nat.pow_le_pow_right (by decide) hk
  simp only [intV, ofInt_nat, BitVec.toNat_and, BitVec.toNat_ofNat, Nat.mod_eq_of_lt (Nat.lt_of_lt_of_le ha e), Nat.mod_eq_of_lt (Nat.lt_of_lt_of_le hb e)]
  rw [wrap_nat (Nat.and_lt_two_pow _ hb)]

theorem or_nat {k : IntKind} (a b : Nat) (ha : a < 2 ^ bitsOf k) (hb : b < 2 ^ bitsOf k) : intV .or k (a : Int) (b : Int) = .int k ((a ||| b : Nat) : Int) := by
  have hk : bitsOf k ≤ k.bits := by cases k <;> decide
  have e : 2 ^ bitsOf k ≤ 2 ^ k.bits := Nat.pow_le_pow_right (by decide) hk
  simp only [intV, ofInt_nat, BitVec.toNat_or, BitVec.toNat_ofNat, Nat.mod_eq_of_lt (Nat.lt_of_lt_of_le ha e), Nat.mod_eq_of_lt (Nat.lt_of_lt_of_le hb e)]
  rw [wrap_nat (Nat.or_lt_two_pow ha hb)]

theorem xor_nat {k : IntKind} (a b : Nat) (ha : a < 2 ^ bitsOf k) (hb : b < 2 ^ bitsOf k) : intV .xor k (a : Int) (b : Int) = .int k ((a ^^^ b : Nat) : Int) := by
  have hk : bitsOf k ≤ k.bits := by cases k <;> decide
  have e : 2 ^ bitsOf k ≤ 2 ^ k.bits := Nat.pow_le_pow_right (by decide) hk
  simp only [intV, ofInt_nat, BitVec.toNat_xor, BitVec.toNat_ofNat, Nat.mod_eq_of_lt (Nat.lt_of_lt_of_le ha e), Nat.mod_eq_of_lt (Nat.lt_of_lt_of_le hb e)]
  rw [wrap_nat (Nat.xor_lt_two_pow ha hb)]

theorem add_nat {k : IntKind} (a b : Nat) (h : a + b < 2 ^ bitsOf k) : intV .add k (a : Int) (b : Int) = .int k ((a + b : Nat) : Int) := by
  simp only [intV]
  rw [show (a : Int) + (b : Int) = ((a + b : Nat) : Int) by norm_cast, wrap_nat h]
theorem mul_nat {k : IntKind} (a b : Nat) (h : a * b < 2 ^ bitsOf k) : intV .mul k (a : Int) (b : Int) = .int k ((a * b : Nat) : Int) := by
  simp only [intV]
  rw [show (a : Int) * (b : Int) = ((a * b : Nat) : Int) by norm_cast, wrap_nat h]
theorem lss_nat {k : IntKind} (a b : Nat) (c : Bool) (h : decide (a < b) = c) : intV .lss k (a : Int) (b : Int) = .bool c := by
  simp only [intV, Int.ofNat_lt, h]
theorem eql_nat {k : IntKind} (a b : Nat) (c : Bool) (h : decide (a = b) = c) : intV .eql k (a : Int) (b : Int) = .bool c := by
  subst h
  simp only [intV]
  congr 1
  rw [Bool.eq_iff_iff]
  simp [Int.ofNat_inj]

section
variable {P : Program} {ops : Array Oper} {w0 w : World} {S : List Nat} {m : List Cl} {o : Oper} {ρ : Operand → Value}

theorem g_quo {t u : TypeId} {x y : Operand} {k : IntKind} {a b c : Int} (ho : o.op = .binOp .quo t x y u) (hx : ρ x = .int k a) (hy : ρ y = .int k b) (hb : b ≠ 0) (hv : k.wrap (a.tdiv b) = c) : GV P w0 S m o ρ (.int k c) :=
  g_binOp ho hx hy fun w => by
    subst hv
    simp [eqGuard, binOp, Op.intDiv, hb]
theorem g_rem {t u : TypeId} {x y : Operand} {k : IntKind} {a b c : Int} (ho : o.op = .binOp .rem t x y u) (hx : ρ x = .int k a) (hy : ρ y = .int k b) (hb : b ≠ 0) (hv : a.tmod b = c) : GV P w0 S m o ρ (.int k c) :=
  g_binOp ho hx hy fun w => by
    subst hv
    simp [eqGuard, binOp, Op.intDiv, hb]

/-- A number of one kind as one of another. -/
theorem g_convInt {src dst : TypeId} {x : Operand} {k k' k0 : IntKind} {a c : Int} (ho : o.op = .convert src dst x) (hx : ρ x = .int k a) (hs : P.underlying src = some (.int k0)) (hd : P.underlying dst = some (.int k')) (hv : k'.wrap a = c) : GV P w0 S m o ρ (.int k' c) :=
  g_run fun w => by
    subst hv
    have hr : (convert src dst (.int k a)).run P w = .ok (.int k' (k'.wrap a)) w := by
      simp only [convert, Sem.run_bind, run_underlying hs w, run_underlying hd w, Result.andThen_ok]
      rfl
    simp only [execOp, ho, hx, Sem.run_bind, hr, Result.andThen_ok]; rfl

/-- An element's address in an array, at a number. -/
theorem g_indexAddrN {t elem : TypeId} {x i : Operand} {b off n sz : Nat} {kk : IntKind} (j : Nat) (off' : Nat) (ho : o.op = .indexAddr t x i) (hx : ρ x = .pointer (some ⟨b, off, none⟩)) (hi : ρ i = .int kk (j : Int)) (hu : P.underlying t = some (.array n elem)) (hs : ∀ w, (Go.sizeOf elem).run P w = .ok sz w) (hj : j < n) (he : off + j * sz = off') :
    GV P w0 S m o ρ (.pointer (some ⟨b, off', none⟩)) :=
  g_indexAddr off' ho hx hi hu hs ⟨by omega, by omega⟩ (by rw [Int.toNat_natCast]; exact he)

/-- An element's address in a slice, at a number. -/
theorem g_indexSl {t elem : TypeId} {x i : Operand} {b off len cap sz : Nat} {kk : IntKind} (j : Nat) (off' : Nat) (ho : o.op = .indexAddr t x i) (hx : ρ x = .slice (some ⟨b, off, none⟩) len cap) (hi : ρ i = .int kk (j : Int)) (hu : P.underlying t = some (.slice elem)) (hs : ∀ w, (Go.sizeOf elem).run P w = .ok sz w) (hj : j < len) (he : off + j * sz = off') :
    GV P w0 S m o ρ (.pointer (some ⟨b, off', none⟩)) :=
  g_run fun w => by
    have hr : (Instr.indexAt t (.slice (some ⟨b, off, none⟩) len cap) (.int kk (j : Int))).run P w = .ok (.pointer (some ⟨b, off', none⟩)) w := by
      subst he
      have h1 : (0 : Int) ≤ (j : Int) ∧ (j : Int) < (len : Int) := ⟨by omega, by omega⟩
      simp only [Instr.indexAt, asIntOf, Sem.run_bind, run_underlying hu w, Result.andThen_ok, Sem.run_pure]
      simp [hj, hs w, Result.andThen, Addr.add_mid]
    simp only [execOp, ho, hx, hi, Sem.run_bind, hr, Result.andThen_ok]; rfl

/-- A block is read, whole. -/
theorem g_loadAll {ty : TypeId} {x : Operand} {b : Nat} {c : Array Value} {T : TypeId} {rw : Bool} {d : TypeDesc} (i : Nat) (ho : o.op = .load ty x) (hx : ρ x = .pointer (some ⟨b, 0, none⟩)) (hi : m[i]? = some ⟨b, c, T, rw⟩)
    (hu : P.underlying ty = some d) (hd : d.isRow = true) (hs : (P.info? ty).map (·.size) = some c.toList.length) : GV P w0 S m o ρ (.agg c) :=
  g_loadRow i c.toList ho hx hi hu hd hs (by rw [List.drop_zero, List.take_length])

/-- A block is written, whole. -/
theorem sets_all {ty : TypeId} {c c' : Array Value} (hs : (P.info? ty).map (·.size) = some c'.toList.length) (h1 : c'.toList.all (·.oneCell') = true) (hl : c.toList.length = c'.toList.length) : SetsTo P ty (.agg c') c 0 c' :=
  sets_row (by simpa using hs) h1 (by rw [hl]; simp) (by rw [List.take_zero, Nat.zero_add, ← hl, List.drop_length, List.nil_append, List.append_nil])

/-! ### Single bits -/
theorem and_bit {k : IntKind} {w x j : Nat} (hw : 0 < w) (hk : w ≤ bitsOf k) : intV .and k ((dg w x (j / w) >>> (j % w) : Nat) : Int) 1 = .int k (((x.testBit j).toNat : Nat) : Int) := by
  have h1 : dg w x (j / w) >>> (j % w) < 2 ^ bitsOf k := Nat.lt_of_le_of_lt (by rw [Nat.shiftRight_eq_div_pow]; exact Nat.div_le_self _ _) (Nat.lt_of_lt_of_le (dg_lt w x (j / w)) (Nat.pow_le_pow_right (by decide) hk))
  have h2 := and_nat (k := k) (dg w x (j / w) >>> (j % w)) 1 h1 (by cases k <;> decide)
  rw [Nat.and_one_is_mod, dg_shr_bit hw] at h2
  exact h2
theorem wrap_bit {k : IntKind} (b : Bool) : k.wrap ((b.toNat : Nat) : Int) = ((b.toNat : Nat) : Int) := wrap_nat (by cases b <;> cases k <;> decide)
theorem bit_shl_lt (b : Bool) {n m : Nat} (h : n < m) : b.toNat <<< n < 2 ^ m := by
  rw [Nat.shiftLeft_eq]
  have : 2 ^ n < 2 ^ m := Nat.pow_lt_pow_right (by decide) h
  cases b <;> simp <;> first | exact Nat.two_pow_pos m | exact this
theorem shl_bit {k : IntKind} (b : Bool) {n : Nat} (h : n < bitsOf k) : k.wrap (((b.toNat : Nat) : Int) * 2 ^ (min n k.bits)) = ((b.toNat <<< n : Nat) : Int) :=
  shl_nat _ n (Nat.le_of_lt (Nat.lt_of_lt_of_le h (by cases k <;> decide))) (bit_shl_lt b h)
theorem or_bit {k : IntKind} (b : Bool) {a n : Nat} (ha : a < 2 ^ bitsOf k) (h : n < bitsOf k) : intV .or k (a : Int) ((b.toNat <<< n : Nat) : Int) = .int k ((a ||| b.toNat <<< n : Nat) : Int) :=
  or_nat _ _ ha (bit_shl_lt b h)
theorem eq_bit {k : IntKind} (b : Bool) : intV .eql k ((b.toNat : Nat) : Int) 1 = .bool b := by cases b <;> rfl

theorem sets_arr {ty : TypeId} {k : IntKind} {n j : Nat} {f g : Nat → Int} {v : Int} (hs : (P.info? ty).map (·.size) = some 1) (hj : j < n) (hg : ∀ i, i < n → upd f j v i = g i) : SetsTo P ty (.int k v) (arr k n f) j (arr k n g) :=
  sets_one rfl hs (by rw [arr_len]; simpa using hj) (by rw [arr_set hj, arr_congr hg])
theorem sets_arrB {ty : TypeId} {n j : Nat} {f g : Nat → Bool} {v : Bool} (hs : (P.info? ty).map (·.size) = some 1) (hj : j < n) (hg : ∀ i, i < n → upd f j v i = g i) : SetsTo P ty (.bool v) (arrB n f) j (arrB n g) :=
  sets_one rfl hs (by rw [arrB_len]; simpa using hj) (by rw [arrB_set hj, arrB_congr hg])
theorem sets_allA {ty : TypeId} {k : IntKind} {n : Nat} {c : Array Value} {f : Nat → Int} (hs : (P.info? ty).map (·.size) = some n) (hl : c.toList.length = n) : SetsTo P ty (.agg (arr k n f)) c 0 (arr k n f) :=
  sets_all (by rw [arr_len]; exact hs) arr_ones (by rw [hl, arr_len])

/-! ### Frames -/
def Looks (A : Act) (ps : Puts) : Puts → Prop
  | [] => True
  | q :: l => look A ps q.1 = q.2 ∧ Looks A ps l

theorem looks_mem {A : Act} {ps : Puts} : ∀ {l : Puts}, Looks A ps l → ∀ q ∈ l, look A ps q.1 = q.2
  | [], _, _, h => by cases h
  | p :: l, h, q, hq => by
    rcases List.mem_cons.1 hq with rfl | hq
    · exact h.1
    · exact looks_mem h.2 q hq

theorem frame_as {A : Act} {n : Nat} {ps : Puts} (qs : Puts) (hn : A.tmps.size = n) (hdf : A.defers = []) (hb : okB n ps = true) (hq : okB n qs = true) (h : Looks A ps qs) : ∃ A', A'.tmps.size = n ∧ A'.defers = [] ∧ putAll A ps = putAll A' qs :=
  ⟨putAll A ps, (putAll_size A ps).trans hn, (putAll_defers A ps).trans hdf, (putAll_as qs hn hb hq (looks_mem h)).symm⟩

theorem frame_ex {A : Act} {n : Nat} {ps : Puts} {M : Prop} (qs : Puts) (hn : A.tmps.size = n) (hdf : A.defers = []) (hb : okB n ps = true) (hq : okB n qs = true) (h : Looks A ps qs) (hM : M) : ∃ A' : Act, A'.tmps.size = n ∧ A'.defers = [] ∧ putAll A ps = putAll A' qs ∧ M :=
  let ⟨A', h1, h2, h3⟩ := frame_as qs hn hdf hb hq h
  ⟨A', h1, h2, h3, hM⟩

/-! ### Strings of bytes -/
def strOf (n : Nat) (f : Nat → Int) : ByteArray := ⟨((List.range n).map fun i => UInt8.ofNat (f i).toNat).toArray⟩

theorem strOf_size (n : Nat) (f : Nat → Int) : (strOf n f).size = n := by
  show (((List.range n).map fun i => UInt8.ofNat (f i).toNat).toArray).size = n
  simp

theorem strOf_congr {n : Nat} {f g : Nat → Int} (h : ∀ i, i < n → f i = g i) : strOf n f = strOf n g := by
  unfold strOf
  congr 2
  refine List.map_congr_left fun i hi => ?_
  rw [h i (List.mem_range.1 hi)]

theorem foldl_push (l : List Int) (b : ByteArray) : l.foldl (fun r n => r.push (UInt8.ofNat n.toNat)) b = ⟨(b.data.toList ++ l.map fun n => UInt8.ofNat n.toNat).toArray⟩ := by
  induction l generalizing b with
  | nil => simp
  | cons n l ih =>
    rw [List.foldl_cons, ih]
    simp [ByteArray.push]

/-- Bytes, in a slice from a block's head on, as a string. -/
theorem g_bytesStr {src dst e : TypeId} {x : Operand} {b n cap : Nat} {f : Nat → Int} {T : TypeId} {rw : Bool} (i : Nat) {N : Nat} (ho : o.op = .convert src dst x) (hx : ρ x = .slice (some ⟨b, 0, none⟩) n cap) (hi : m[i]? = some ⟨b, arr .u8 N f, T, rw⟩) (hn : n ≤ N)
    (hs : P.underlying src = some (.slice e)) (he : P.underlying e = some (.int .u8)) (hd : P.underlying dst = some .string) : GV P w0 S m o ρ (.string (strOf n f)) := by
  intro w hM
  have hh := hM.get i hi
  simp only at hh
  have hl := run_loadCells_list (P := P) w ⟨b, 0, none⟩ (((List.range n).map f).map (Value.int .u8)) (fun j v hj => by
    have hlt : j < n := by
      have := (List.getElem?_eq_some_iff.1 hj).1
      simpa using this
    rw [Addr.add_mid]
    unfold World.cell?
    simp only [hh, Nat.zero_add]
    rw [List.getElem?_map, List.getElem?_map, List.getElem?_range hlt] at hj
    simp only [Option.map_some, Option.some.injEq] at hj
    rw [← hj]
    have := arr_get (k := .u8) (f := f) (Nat.lt_of_lt_of_le hlt hn)
    simpa using this)
  have hr : (convert src dst (.slice (some ⟨b, 0, none⟩) n cap)).run P w = .ok (.string (strOf n f)) w := by
    rw [run_convert_bytes_string w src dst e (some ⟨b, 0, none⟩) n cap hs he hd]
    simp only [List.length_map, List.length_range] at hl
    rw [run_bytesToString w _ n cap ((List.range n).map f) hl, foldl_push]
    simp only [strOf, List.map_map, Function.comp_def]
    rfl
  have : (execOp ρ o).run P w = .ok (.value (.string (strOf n f))) w := by
    simp only [execOp, ho, hx, Sem.run_bind, hr, Result.andThen_ok]; rfl
  exact this

theorem strOf_get {n : Nat} {f : Nat → Int} {i : Nat} (h : i < n) : (strOf n f)[i]? = some (UInt8.ofNat (f i).toNat) := by
  have hl : i < (strOf n f).size := by rw [strOf_size]; exact h
  rw [getElem?_pos (strOf n f) i hl]
  congr 1
  show (((List.range n).map fun i => UInt8.ofNat (f i).toNat).toArray)[i]'(by simpa using h) = _
  simp

/-- A byte of a string. -/
theorem g_indexStr {t : TypeId} {x i : Operand} {n : Nat} {f : Nat → Int} {kk : IntKind} (j : Nat) (ho : o.op = .index t x i) (hx : ρ x = .string (strOf n f)) (hi : ρ i = .int kk (j : Int)) (hu : P.underlying t = some .string) (hj : j < n) (hf : 0 ≤ f j ∧ f j < 256) : GV P w0 S m o ρ (.int .u8 (f j)) :=
  g_index ho hx hi fun w => by
    have h1 : (0 : Int) ≤ (j : Int) := by omega
    have e : ((UInt8.ofNat (f j).toNat).toNat : Int) = f j := by
      rw [UInt8.toNat_ofNat']
      omega
    simp only [Instr.index, asIntOf, Sem.run_bind, Sem.run_pure, Result.andThen_ok, run_underlying hu w, if_pos h1, Int.toNat_natCast, strOf_get hj, e]

end
end Go.Mx
