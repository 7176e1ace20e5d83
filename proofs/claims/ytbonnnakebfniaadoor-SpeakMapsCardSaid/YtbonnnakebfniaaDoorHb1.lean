/- sha2, 64 bits: the sum of texts: what it reckons; builders beside known blocks. -/
import Derived.Test.YtbonnnakebfniaaDoorHa2
namespace Go.Mx
open Go Go.RowKit

def bytesTo (f : Nat → Int) (k : Nat) : List UInt8 := (List.range k).map fun i => UInt8.ofNat (f i).toNat
theorem strOf_bytes (f : Nat → Int) (k : Nat) : (⟨(bytesTo f k).toArray⟩ : ByteArray) = strOf k f := rfl
theorem bytesTo_succ (f : Nat → Int) (k : Nat) (h : 0 ≤ f k ∧ f k < 256) : Lib.byteCells (bytesTo f (k + 1)) = Lib.byteCells (bytesTo f k) ++ [.int .u8 (f k)] := by
  have e : ((UInt8.ofNat (f k).toNat).toNat : Int) = f k := by
    rw [UInt8.toNat_ofNat']
    omega
  simp only [Lib.byteCells, bytesTo, List.range_succ, List.map_append, List.map_cons, List.map_nil, e]
theorem bytesTo_len (f : Nat → Int) (k : Nat) : (bytesTo f k).length = k := by simp [bytesTo]
theorem cells_len (l : List UInt8) : (Lib.byteCells l).length = l.length := by simp [Lib.byteCells]

theorem lt_of_builder {T e : TypeId} {B b : Nat} {bs : List Value} {w : World} (h : Lib.IsBuilder T e B b bs w) : b < w.heap.size := by
  rcases h with h | h <;> exact h.lt

/-- Pieces of a text from its k-th block on. -/
def restS (s : ByteArray) : Nat → ByteArray
  | 0 => s
  | k + 1 => (restS s k).extract 128 (restS s k).size
theorem size_extract (s : ByteArray) (a b : Nat) (h : b ≤ s.size) : (s.extract a b).size = b - a := by
  rw [ByteArray.size_extract]; omega
theorem restS_size (s : ByteArray) : ∀ k, (restS s k).size = s.size - 128 * k
  | 0 => by simp [restS]
  | k + 1 => by
    rw [restS, size_extract _ _ _ (Nat.le_refl _), restS_size s k]
    omega
theorem size_app (a b : ByteArray) : (a ++ b).size = a.size + b.size := ByteArray.size_append

theorem Mem.read3 (w : World) {a b c : Nat} {x y z : Array Value} {T U V : TypeId} (h1 : w.heap[a]? = some (.cells x T (0, 0))) (h2 : w.heap[b]? = some (.cells y U (0, 0))) (h3 : w.heap[c]? = some (.cells z V (0, 0))) (hab : a ≠ b) (hac : a ≠ c) (hbc : b ≠ c) : Mem w [] w [⟨a, x, T, false⟩, ⟨b, y, U, false⟩, ⟨c, z, V, false⟩] :=
  (((Mem.start w).take h3 (fun h => (by cases h)) (by simp)).take h2 (fun h => (by cases h)) (by simpa using hbc)).take h1 (fun h => (by cases h)) (by simp [hab, hac])
theorem gtr0_nat {k : IntKind} (a : Nat) (c : Bool) (h : decide (0 < a) = c) : intV .gtr k (a : Int) 0 = .bool c := by
  subst h
  refine congrArg Value.bool (decide_eq_decide.2 ?_)
  omega
theorem sub56 {k : Nat} (hk : k < 8) : intV .sub .i64 ((56 - 8 * k : Nat) : Int) 8 = .int .i64 (56 - 8 * ((k + 1 : Nat) : Int)) := by
  have e : ((56 - 8 * k : Nat) : Int) - 8 = 56 - 8 * ((k + 1 : Nat) : Int) := by omega
  refine congrArg (Value.int .i64) ?_
  rw [e]
  generalize ((k + 1 : Nat) : Int) = q at *
  have h1 : -8 ≤ 56 - 8 * q := by omega
  have h2 : 56 - 8 * q ≤ 56 := by omega
  generalize 56 - 8 * q = r at *
  show IntKind.i64.wrap r = r
  simp [IntKind.wrap, IntKind.bits, IntKind.signed]
  omega
section
variable {P : Program} {ops : Array Oper} {w0 w : World} {S : List Nat} {m : List Cl} {o : Oper} {ρ : Operand → Value}
/-- An element of an array that is a value. -/
theorem g_indexArr {t e : TypeId} {x i : Operand} {n : Nat} {k kk : IntKind} {f : Nat → Int} (j : Nat) (ho : o.op = .index t x i) (hx : ρ x = .agg (arr k n f)) (hi : ρ i = .int kk (j : Int)) (hu : P.underlying t = some (.array n e)) (he : P.underlying e = some (.int k)) (hs : ∀ w, (Go.sizeOf e).run P w = .ok 1 w) (hj : j < n) : GV P w0 S m o ρ (.int k (f j)) :=
  g_index ho hx hi fun w => by
    have ha : (isAgg e).run P w = .ok false w := by
      unfold isAgg
      rw [Sem.run_bind, run_underlying he w]
      simp
    have h1 : (0 : Int) ≤ (j : Int) ∧ (j : Int) < (n : Int) := ⟨by omega, by omega⟩
    simp only [Instr.index, asIntOf, Sem.run_bind, Sem.run_pure, Result.andThen_ok, run_underlying hu w, if_pos h1, hs w, Nat.mul_one, Int.toNat_natCast, part, ha, Bool.false_eq_true, if_false, arr_get hj]
end

def zerosS (k : Nat) : ByteArray := ⟨(Lib.repeatL [0] k).toArray⟩
end Go.Mx
namespace Go.Proofs.YtbonnnakebfniaaDoor
open Go Go.RowKit Mx

def joinS (xs : List ByteArray) : ByteArray := ⟨(Lib.join (xs.map (·.data.toList)) []).toArray⟩
def padN (n : Nat) : Nat := (128 - (n + 1 + 16) % 128) % 128
def tailF (n : Nat) (j : Nat) : Int := iCut .u8 (iShr .u64 (iShl .u64 (iCut .u64 (n : Int)) 3) (56 - 8 * j))
/-- A text with its end. -/
def padS (s : ByteArray) : ByteArray := s ++ (⟨#[128]⟩ ++ zerosS (padN s.size + 16 - 8)) ++ strOf 8 (tailF s.size)
def hInit (g0 : Nat → Int) : Nat → Nat → Int
  | 0 => fun _ => 0
  | k + 1 => upd (hInit g0 k) k (word64 (g0 k))
def hBlocks (g0 g1 : Nat → Int) (s : ByteArray) : Nat → Nat → Int
  | 0 => hInit g0 8
  | k + 1 => mix64 g1 (hBlocks g0 g1 s k) ((restS s k).extract 0 128)
def outF (h : Nat → Int) (q : Nat) : Int := iCut .u8 (iShr .u64 (h (q / 8)) (56 - 8 * (q % 8)))
theorem outF_at (h : Nat → Int) {j k : Nat} (hk : k < 8) : iCut .u8 (iShr .u64 (h j) (56 - 8 * k)) = outF h (8 * j + k) := by
  unfold outF
  rw [Nat.mul_add_div (by decide), Nat.div_eq_of_lt hk, Nat.add_zero, Nat.mul_add_mod, Nat.mod_eq_of_lt hk]
/-- The sum of a text, byte by byte. -/
def sum64 (g0 g1 : Nat → Int) (s : ByteArray) : Nat → Int := outF (hBlocks g0 g1 (padS s) ((padS s).size / 128))

theorem zerosS_size (k : Nat) : (zerosS k).size = k := by
  show (Lib.repeatL [0] k).toArray.size = k
  rw [List.size_toArray, Lib.repeatL_length]
  simp

theorem padS_size (s : ByteArray) : (padS s).size = s.size + 1 + (padN s.size + 8) + 8 := by
  unfold padS
  rw [size_app, size_app, size_app, zerosS_size, strOf_size]
  show s.size + (1 + (padN s.size + 16 - 8)) + 8 = _
  omega
theorem padS_mod (s : ByteArray) : (padS s).size % 128 = 0 := by
  rw [padS_size]; unfold padN; omega

theorem join_call (xs : List ByteArray) {bl cl : Nat} {cL : Array Value} {T : TypeId} (hL : ∀ (j : Nat) x, xs[j]? = some x → cL[j]? = some (.string x)) (hN : xs.length ≤ 140737488355328) (hcl : xs.length ≤ cl) (hlen : (joinS xs).size ≤ 70368744177664) (w : World) (hh : w.heap[bl]? = some (.cells cL T (0, 0))) :
    Calls Tryd.prog 31 #[.slice (some ⟨bl, 0, none⟩) xs.length cl, .string ⟨#[]⟩] w fun e w' => e = .returned (.string (joinS xs)) ∧ Below w.heap.size w w' := by
  refine Tryd.strings_Join bl 0 cl xs ⟨#[]⟩ w (fun j x hx => ?_) (Array.getElem?_eq_some_iff.1 hh).1 hN hcl ?_
  · rw [Nat.zero_add, Lib.cell_of_heap hh]; exact hL j x hx
  · have : (joinS xs).size = (Lib.join (xs.map (·.data.toList)) []).length := by
      show (Lib.join (xs.map (·.data.toList)) []).toArray.size = _
      simp
    rw [this] at hlen
    exact Nat.le_trans hlen (by decide)

theorem repeat_call (k : Nat) (h : k ≤ 1000000) : Pure 32 #[.string ⟨#[0]⟩, .int .i64 (k : Int)] (.string (zerosS k)) := fun w =>
  Tryd.strings_Repeat ⟨#[0]⟩ k w (by omega) (by
    show 1 * k ≤ _
    omega)

section
variable {w0 w : World} {S : List Nat} {m : List Cl} {b k : Nat} {f : Nat → Int}
theorem wb_call (hM : Mem w0 S w m) (hge : w0.heap.size ≤ b) (hlt : ∀ c ∈ m, c.b < b) (hB : Lib.IsBuilder 73 5 b b (Lib.byteCells (bytesTo f k)) w) (hk : k < 1000000) (hf : 0 ≤ f k ∧ f k < 256) :
    Calls Tryd.prog 33 #[.pointer (some ⟨b, 0, none⟩), .int .u8 (f k)] w fun e w' => e = .returned .nilIface ∧ (Mem w0 S w' m ∧ Lib.IsBuilder 73 5 b b (Lib.byteCells (bytesTo f (k + 1))) w') := by
  refine (writeByte_B b b _ (f k) w hB (by rw [cells_len, bytesTo_len]; omega) (Nat.le_of_lt (lt_of_builder hB))).mono ?_
  rintro e w' ⟨rfl, h1, h2⟩
  refine ⟨rfl, hM.lowB hge hlt h2, ?_⟩
  rw [bytesTo_succ f k hf]
  exact .inr h1
theorem st_call (hM : Mem w0 S w m) (hge : w0.heap.size ≤ b) (hlt : ∀ c ∈ m, c.b < b) (hB : Lib.IsBuilder 73 5 b b (Lib.byteCells (bytesTo f k)) w) :
    Calls Tryd.prog 34 #[.pointer (some ⟨b, 0, none⟩)] w fun e w' => e = .returned (.string (strOf k f)) ∧ Mem w0 S w' m := by
  refine (Tryd.Builder_String_any b b (bytesTo f k) w hB (Nat.le_of_lt (lt_of_builder hB))).mono ?_
  rintro e w' ⟨rfl, h2⟩
  exact ⟨rfl, hM.lowB hge hlt h2⟩
end
end Go.Proofs.YtbonnnakebfniaaDoor

/- sha2: sum. -/
namespace Go.Proofs.YtbonnnakebfniaaDoor
open Go Go.RowKit Num Mx


theorem nm31 : (Tryd.f31.name == "runtime.NumGoroutine") = false := by kernel_rfl
theorem bd31 : Tryd.f31.body.isNone = false := by kernel_rfl
theorem nm32 : (Tryd.f32.name == "runtime.NumGoroutine") = false := by kernel_rfl
theorem bd32 : Tryd.f32.body.isNone = false := by kernel_rfl
theorem nm33 : (Tryd.f33.name == "runtime.NumGoroutine") = false := by kernel_rfl
theorem bd33 : Tryd.f33.body.isNone = false := by kernel_rfl
theorem nm34 : (Tryd.f34.name == "runtime.NumGoroutine") = false := by kernel_rfl
theorem bd34 : Tryd.f34.body.isNone = false := by kernel_rfl
theorem nm35 : (Tryd.f35.name == "runtime.NumGoroutine") = false := by kernel_rfl
theorem bd35 : Tryd.f35.body.isNone = false := by kernel_rfl

set_option maxHeartbeats 1000000 in
set_option maxRecDepth 100000 in
theorem sum_E (g0 g1 : Nat → Int) (xs : List ByteArray) {cl : Nat} {cL : Array Value} (hL : ∀ (j : Nat) x, xs[j]? = some x → cL[j]? = some (.string x)) (hN : xs.length ≤ 140737488355328) (hcl : xs.length ≤ cl) (hlen : (joinS xs).size ≤ 70368744177664) (w0 : World) {bl : Nat}
    (hbl : w0.heap[bl]? = some (.cells cL 9 (0, 0))) (hg0 : w0.heap[0]? = some (.cells (arr .u64 8 g0) 67 (0, 0))) (hg1 : w0.heap[1]? = some (.cells (arr .u64 80 g1) 101 (0, 0))) (hb0 : bl ≠ 0) (hb1 : bl ≠ 1) :
    Calls Tryd.prog 17 #[kind512V, .slice (some ⟨bl, 0, none⟩) xs.length cl] w0 fun e w' => e = .returned (.string (strOf 64 (sum64 g0 g1 (joinS xs)))) ∧ Below w0.heap.size w0 w' := by
  unfold sum64
  have hjoin := join_call xs (bl := bl) (T := 9) hL hN hcl hlen
  generalize hs : joinS xs = s at *
  have hpad : padN s.size < 128 := Nat.mod_lt _ (by decide)
  refine enter Tryd.func17 rfl Tryd.ntmps17 (Nat.le_of_ble_eq_true rfl) fun A hn hdf => ?_
  have hM : Mem w0 [] w0 [⟨bl, cL, 9, false⟩, ⟨0, (arr .u64 8 g0), 67, false⟩, ⟨1, (arr .u64 80 g1), 101, false⟩] := Mem.read3 w0 hbl hg0 hg1 hb0 hb1 (by decide)
  replace hM := hM
  refine wp_seq ?_
  refine wp_region_lit ?_
  refine T_box 2 hn hM rfl rfl rfl rfl rfl #[(.int .i64 64), (.int .i64 80), (.int .i64 1), (.int .i64 8), (.int .i64 7), (.int .i64 19), (.int .i64 61), (.int .i64 6), (.int .i64 28), (.int .i64 34), (.int .i64 39), (.int .i64 14), (.int .i64 18), (.int .i64 41)] rfl (fun b0 w hM => ?_)
  refine T_val 4 hn hM rfl rfl rfl (v := (.string ⟨#[]⟩)) (g_assign rfl rfl) ?_
  refine T_nil ?_
  refine wp_seq ?_
  refine wp_region_lit ?_
  refine T_alloc 5 hn hM rfl rfl rfl rfl Tryd.zeroValue67 (arr .u64 8 (fun _ => 0)) (by rfl) (fun b1 w hM => ?_)
  refine T_nil ?_
  refine wp_seq ?_
  refine wp_seq ?_
  refine wp_region_lit ?_
  refine T_val 18 hn hM rfl rfl rfl (v := (.int .i64 0)) (g_move rfl rfl) ?_
  refine T_nil ?_
  refine wp_block ?_
  refine C_loop (fun k a w => ∃ A : Act, A.tmps.size = 100 ∧ A.defers = [] ∧ a = putAll A [(1, (.slice (some ⟨bl, 0, none⟩) xs.length cl)), (2, (.pointer (some ⟨b0, 0, none⟩))), (5, (.pointer (some ⟨b1, 0, none⟩))), (18, (.int .i64 ((k : Nat) : Int)))] ∧ Mem w0 [] w [⟨b1, (arr .u64 8 (hInit g0 k)), 67, true⟩, ⟨b0, #[(.int .i64 64), (.int .i64 80), (.int .i64 1), (.int .i64 8), (.int .i64 7), (.int .i64 19), (.int .i64 61), (.int .i64 6), (.int .i64 28), (.int .i64 34), (.int .i64 39), (.int .i64 14), (.int .i64 18), (.int .i64 41)], 41, true⟩, ⟨bl, cL, 9, false⟩, ⟨0, (arr .u64 8 g0), 67, false⟩, ⟨1, (arr .u64 80 g1), 101, false⟩]) 8 ?_ ?_ ?_
  · skip
    exact frame_ex [(1, (.slice (some ⟨bl, 0, none⟩) xs.length cl)), (2, (.pointer (some ⟨b0, 0, none⟩))), (5, (.pointer (some ⟨b1, 0, none⟩))), (18, (.int .i64 ((0 : Nat) : Int)))] hn hdf rfl rfl ⟨rfl, rfl, rfl, rfl, trivial⟩ hM
  · intro k hk a w hI
    obtain ⟨A, hn, hdf, rfl, hM⟩ := hI
    refine wp_seq ?_
    refine wp_region_lit ?_
    refine T_val 19 hn hM rfl rfl rfl (v := (.bool true)) (g_int rfl rfl rfl rfl (lss_nat k 8 true (decide_eq_true (by omega)))) ?_
    refine T_nil ?_
    refine wp_seq ?_
    refine C_condT hn rfl rfl ?_
    refine wp_skip ?_
    refine x_next ?_
    refine wp_seq ?_
    refine wp_block ?_
    refine wp_seq ?_
    refine wp_region_lit ?_
    refine T_val 20 hn hM rfl rfl rfl (v := (.int .i64 ((k : Nat) : Int))) (g_move rfl rfl) ?_
    refine T_val 6 hn hM rfl rfl rfl (v := (.int .i64 ((k : Nat) : Int))) (g_assign rfl rfl) ?_
    refine T_nil ?_
    refine R_any [.val, .val, .val, .val, .val, .val] 6 [] [] hn hM rfl (by kernel_rfl) (by kernel_rfl) rfl rfl rfl ?_
    refine E_val 21 rfl rfl rfl rfl (v := (.int .i64 ((k : Nat) : Int))) (g_move rfl rfl) ?_
    refine E_val 22 rfl rfl rfl rfl (v := (.agg #[(.int .i64 64), (.int .i64 80), (.int .i64 1), (.int .i64 8), (.int .i64 7), (.int .i64 19), (.int .i64 61), (.int .i64 6), (.int .i64 28), (.int .i64 34), (.int .i64 39), (.int .i64 14), (.int .i64 18), (.int .i64 41)])) (g_loadRow 1 [(.int .i64 64), (.int .i64 80), (.int .i64 1), (.int .i64 8), (.int .i64 7), (.int .i64 19), (.int .i64 61), (.int .i64 6), (.int .i64 28), (.int .i64 34), (.int .i64 39), (.int .i64 14), (.int .i64 18), (.int .i64 41)] rfl rfl rfl Tryd.underlying41 rfl sz41 rfl) ?_
    refine E_val 23 rfl rfl rfl rfl (v := (.int .i64 ((k : Nat) : Int))) (g_move rfl rfl) ?_
    refine E_val 24 rfl rfl rfl rfl (v := (.pointer (some ⟨0, k, none⟩))) (g_indexAddrN k k rfl rfl rfl Tryd.underlying67 Tryd.sizeOf27 (by omega) (by omega)) ?_
    refine E_val 25 rfl rfl rfl rfl (v := (.int .u64 (g0 k))) (g_loadOne 3 rfl rfl rfl Tryd.underlying27 rfl (arr_get (by omega))) ?_
    refine E_call 26 rfl rfl rfl rfl (v := (.int .u64 (word64 (g0 k)))) (g_call (word64_E _) rfl rfl rfl Tryd.func30 nm30 bd30) ?_
    refine E_nil ?_
    refine ⟨?_, fun β1 w hM => ?_⟩
    · skip
      refine M_val rfl ?_
      refine M_val rfl ?_
      refine M_val rfl ?_
      refine M_val rfl ?_
      refine M_val rfl ?_
      refine M_val rfl ?_
      exact M_nil
    show wpList _ _ _ (_ :: _) (putAll _ (_)) _
    refine T_val 27 hn hM rfl rfl rfl (v := (.pointer (some ⟨b1, k, none⟩))) (g_indexAddrN k k rfl rfl rfl Tryd.underlying67 Tryd.sizeOf27 (by omega) (by omega)) ?_
    refine T_store 0 hn hM rfl rfl rfl rfl rfl rfl rfl (c' := (arr .u64 8 (hInit g0 (k + 1)))) (sets_arr sz27 (by omega) (fun q _ => rfl)) (fun w hM => ?_)
    replace hM : Mem _ _ w [⟨b1, (arr .u64 8 (hInit g0 (k + 1))), 67, true⟩, ⟨b0, #[(.int .i64 64), (.int .i64 80), (.int .i64 1), (.int .i64 8), (.int .i64 7), (.int .i64 19), (.int .i64 61), (.int .i64 6), (.int .i64 28), (.int .i64 34), (.int .i64 39), (.int .i64 14), (.int .i64 18), (.int .i64 41)], 41, true⟩, ⟨bl, cL, 9, false⟩, ⟨0, (arr .u64 8 g0), 67, false⟩, ⟨1, (arr .u64 80 g1), 101, false⟩] := hM
    refine T_end ?_
    refine x_norm ?_
    refine x_next ?_
    refine wp_region_lit ?_
    refine T_val 28 hn hM rfl rfl rfl (v := (.int .i64 ((k + 1 : Nat) : Int))) (g_int rfl rfl rfl rfl (add_nat k 1 (by simp only [bitsOf]; omega))) ?_
    refine T_val 18 hn hM rfl rfl rfl (v := (.int .i64 ((k + 1 : Nat) : Int))) (g_move rfl rfl) ?_
    refine T_nil ?_
    exact frame_ex [(1, (.slice (some ⟨bl, 0, none⟩) xs.length cl)), (2, (.pointer (some ⟨b0, 0, none⟩))), (5, (.pointer (some ⟨b1, 0, none⟩))), (18, (.int .i64 (((k + 1) : Nat) : Int)))] hn hdf rfl rfl ⟨rfl, rfl, rfl, rfl, trivial⟩ hM
  · intro a w hI
    obtain ⟨A, hn, hdf, rfl, hM⟩ := hI
    refine wp_seq ?_
    refine wp_region_lit ?_
    refine T_val 19 hn hM rfl rfl rfl (v := (.bool false)) (g_int rfl rfl rfl rfl (lss_nat 8 8 false (decide_eq_false (by omega)))) ?_
    refine T_nil ?_
    refine wp_seq ?_
    refine C_condF hn rfl rfl ?_
    refine wp_exit ?_
    refine x_thenE ?_
    refine x_thenE ?_
    refine x_in ?_
    refine x_next ?_
    refine wp_seq ?_
    refine R_any [.val, .val, .val, .val, .val, .val, .val] 7 [] [] hn hM rfl (by kernel_rfl) (by kernel_rfl) rfl rfl rfl ?_
    refine E_val 29 rfl rfl rfl rfl (v := (.pointer (some ⟨b0, 0, none⟩))) (g_fieldAddr rfl rfl Tryd.underlying41 rfl Tryd.sizeOf3 0 rfl) ?_
    refine E_val 30 rfl rfl rfl rfl (v := (.int .i64 64)) (g_loadOne 1 rfl rfl rfl Tryd.underlying3 rfl rfl) ?_
    refine E_val 31 rfl rfl rfl rfl (v := (.int .i64 128)) (g_int rfl rfl rfl rfl rfl) ?_
    refine E_val 32 rfl rfl rfl rfl (v := (.pointer (some ⟨b0, 0, none⟩))) (g_fieldAddr rfl rfl Tryd.underlying41 rfl Tryd.sizeOf3 0 rfl) ?_
    refine E_val 33 rfl rfl rfl rfl (v := (.int .i64 64)) (g_loadOne 1 rfl rfl rfl Tryd.underlying3 rfl rfl) ?_
    refine E_val 34 rfl rfl rfl rfl (v := (.int .i64 16)) (g_quo rfl rfl rfl (by decide) (by decide)) ?_
    refine E_val 7 rfl rfl rfl rfl (v := (.int .i64 128)) (g_assign rfl rfl) ?_
    refine E_nil ?_
    refine ⟨?_, fun β2 w hM => ?_⟩
    · skip
      refine M_val rfl ?_
      refine M_val rfl ?_
      refine M_val rfl ?_
      refine M_val rfl ?_
      refine M_val rfl ?_
      refine M_val rfl ?_
      refine M_val rfl ?_
      exact M_nil
    show wpList _ _ _ (_ :: _) (putAll _ (_)) _
    refine T_val 8 hn hM rfl rfl rfl (v := (.int .i64 16)) (g_assign rfl rfl) ?_
    refine T_nil ?_
    refine wp_seq ?_
    refine wp_region_lit ?_
    refine T_val 35 hn hM rfl rfl rfl (v := (.slice (some ⟨bl, 0, none⟩) xs.length cl)) (g_move rfl rfl) ?_
    refine T_call 36 hn hM rfl rfl rfl (v := (.string s)) (g_callM (fun w hM => hjoin w (hM.get 2 rfl)) rfl rfl rfl Tryd.func31 nm31 bd31) (fun w hM => ?_)
    refine T_val 9 hn hM rfl rfl rfl (v := (.string s)) (g_assign rfl rfl) ?_
    refine T_nil ?_
    refine wp_seq ?_
    refine wp_region_lit ?_
    refine T_val 37 hn hM rfl rfl rfl (v := (.string s)) (g_move rfl rfl) ?_
    refine T_val 38 hn hM rfl rfl rfl (v := (.int .i64 ((s.size : Nat) : Int))) (g_lenStr rfl rfl Tryd.underlying9 rfl) ?_
    refine T_val 10 hn hM rfl rfl rfl (v := (.int .i64 ((s.size : Nat) : Int))) (g_assign rfl rfl) ?_
    refine T_nil ?_
    refine wp_seq ?_
    refine wp_region_lit ?_
    refine T_val 39 hn hM rfl rfl rfl (v := (.int .i64 128)) (g_move rfl rfl) ?_
    refine T_val 40 hn hM rfl rfl rfl (v := (.int .i64 ((s.size : Nat) : Int))) (g_move rfl rfl) ?_
    refine T_val 41 hn hM rfl rfl rfl (v := (.int .i64 ((s.size + 1 : Nat) : Int))) (g_int rfl rfl rfl rfl (add_nat s.size 1 (by simp only [bitsOf]; omega))) ?_
    refine T_val 42 hn hM rfl rfl rfl (v := (.int .i64 16)) (g_move rfl rfl) ?_
    refine T_val 43 hn hM rfl rfl rfl (v := (.int .i64 (((s.size + 1) + 16 : Nat) : Int))) (g_int rfl rfl rfl rfl (add_nat (s.size + 1) 16 (by simp only [bitsOf]; omega))) ?_
    refine T_val 44 hn hM rfl rfl rfl (v := (.int .i64 128)) (g_move rfl rfl) ?_
    refine T_val 45 hn hM rfl rfl rfl (v := (.int .i64 ((((s.size + 1) + 16) % 128 : Nat) : Int))) (g_rem rfl rfl rfl (by decide) (rem_nat ((s.size + 1) + 16) 128)) ?_
    refine T_val 46 hn hM rfl rfl rfl (v := (.int .i64 ((128 - (s.size + 1 + 16) % 128 : Nat) : Int))) (g_int rfl rfl rfl rfl (subN 128 ((s.size + 1 + 16) % 128) (by omega))) ?_
    refine T_val 47 hn hM rfl rfl rfl (v := (.int .i64 128)) (g_move rfl rfl) ?_
    refine T_val 48 hn hM rfl rfl rfl (v := (.int .i64 ((padN s.size : Nat) : Int))) (g_rem rfl rfl rfl (by decide) (rem_nat (128 - (s.size + 1 + 16) % 128) 128)) ?_
    refine T_val 11 hn hM rfl rfl rfl (v := (.int .i64 ((padN s.size : Nat) : Int))) (g_assign rfl rfl) ?_
    refine T_nil ?_
    refine wp_seq ?_
    refine wp_region_lit ?_
    refine T_val 49 hn hM rfl rfl rfl (v := (.string s)) (g_move rfl rfl) ?_
    refine T_val 50 hn hM rfl rfl rfl (v := (.int .i64 ((padN s.size : Nat) : Int))) (g_move rfl rfl) ?_
    refine T_val 51 hn hM rfl rfl rfl (v := (.int .i64 16)) (g_move rfl rfl) ?_
    refine T_val 52 hn hM rfl rfl rfl (v := (.int .i64 (((padN s.size) + 16 : Nat) : Int))) (g_int rfl rfl rfl rfl (add_nat (padN s.size) 16 (by simp only [bitsOf]; omega))) ?_
    refine T_val 53 hn hM rfl rfl rfl (v := (.int .i64 ((padN s.size + 16 - 8 : Nat) : Int))) (g_int rfl rfl rfl rfl (subN (padN s.size + 16) 8 (by omega))) ?_
    refine T_call 54 hn hM rfl rfl rfl (v := (.string (zerosS (padN s.size + 16 - 8)))) (g_call (repeat_call (padN s.size + 16 - 8) (by omega)) rfl rfl rfl Tryd.func32 nm32 bd32) (fun w hM => ?_)
    refine T_val 55 hn hM rfl rfl rfl (v := (.string (⟨#[128]⟩ ++ zerosS (padN s.size + 16 - 8)))) (g_catS rfl rfl rfl (by rw [zerosS_size]; show 1 + _ ≤ _; omega)) ?_
    refine T_val 56 hn hM rfl rfl rfl (v := (.string (s ++ (⟨#[128]⟩ ++ zerosS (padN s.size + 16 - 8))))) (g_catS rfl rfl rfl (by rw [size_app, zerosS_size]; show _ + (1 + _) ≤ _; omega)) ?_
    refine T_val 9 hn hM rfl rfl rfl (v := (.string (s ++ (⟨#[128]⟩ ++ zerosS (padN s.size + 16 - 8))))) (g_assign rfl rfl) ?_
    refine T_nil ?_
    refine wp_seq ?_
    refine wp_region_lit ?_
    refine T_allocB (e := 5) 12 hn hM rfl rfl rfl rfl Tryd.zeroValue73 (fun b2 w hge hlt _ hB hM => ?_)
    refine T_nil ?_
    refine wp_seq ?_
    refine wp_seq ?_
    refine wp_region_lit ?_
    refine T_val 13 hn hM rfl rfl rfl (v := (.int .i64 56)) (g_assign rfl rfl) ?_
    refine T_nil ?_
    refine wp_block ?_
    refine C_loop (fun k a w => ∃ A : Act, A.tmps.size = 100 ∧ A.defers = [] ∧ a = putAll A [(2, (.pointer (some ⟨b0, 0, none⟩))), (5, (.pointer (some ⟨b1, 0, none⟩))), (7, (.int .i64 128)), (9, (.string (s ++ (⟨#[128]⟩ ++ zerosS (padN s.size + 16 - 8))))), (10, (.int .i64 ((s.size : Nat) : Int))), (12, (.pointer (some ⟨b2, 0, none⟩))), (13, (.int .i64 (56 - 8 * ((k : Nat) : Int))))] ∧ Mem w0 [] w [⟨b1, (arr .u64 8 (hInit g0 8)), 67, true⟩, ⟨b0, #[(.int .i64 64), (.int .i64 80), (.int .i64 1), (.int .i64 8), (.int .i64 7), (.int .i64 19), (.int .i64 61), (.int .i64 6), (.int .i64 28), (.int .i64 34), (.int .i64 39), (.int .i64 14), (.int .i64 18), (.int .i64 41)], 41, true⟩, ⟨bl, cL, 9, false⟩, ⟨0, (arr .u64 8 g0), 67, false⟩, ⟨1, (arr .u64 80 g1), 101, false⟩] ∧ Lib.IsBuilder 73 5 b2 b2 (Lib.byteCells (bytesTo (tailF s.size) k)) w) 8 ?_ ?_ ?_
    · skip
      exact frame_ex [(2, (.pointer (some ⟨b0, 0, none⟩))), (5, (.pointer (some ⟨b1, 0, none⟩))), (7, (.int .i64 128)), (9, (.string (s ++ (⟨#[128]⟩ ++ zerosS (padN s.size + 16 - 8))))), (10, (.int .i64 ((s.size : Nat) : Int))), (12, (.pointer (some ⟨b2, 0, none⟩))), (13, (.int .i64 (56 - 8 * ((0 : Nat) : Int))))] hn hdf rfl rfl ⟨rfl, rfl, rfl, rfl, rfl, rfl, rfl, trivial⟩ ⟨hM, hB⟩
    · intro k hk a w hI
      obtain ⟨A, hn, hdf, rfl, hM, hB⟩ := hI
      have hj : (56 : Int) - 8 * (k : Int) = ((56 - 8 * k : Nat) : Int) := by omega
      rw [hj]
      refine wp_seq ?_
      refine wp_seq ?_
      refine wp_region_lit ?_
      refine T_val 57 hn hM rfl rfl rfl (v := (.int .i64 ((56 - 8 * k : Nat) : Int))) (g_move rfl rfl) ?_
      refine T_val 58 hn hM rfl rfl rfl (v := (.bool true)) (g_int rfl rfl rfl rfl (geq_nat _)) ?_
      refine T_nil ?_
      refine C_condT hn rfl rfl ?_
      refine wp_skip ?_
      refine x_next ?_
      refine wp_seq ?_
      refine wp_block ?_
      refine wp_region_lit ?_
      refine T_val 61 hn hM rfl rfl rfl (v := (.int .i64 ((s.size : Nat) : Int))) (g_move rfl rfl) ?_
      refine T_val 62 hn hM rfl rfl rfl (v := (.int .u64 (iCut .u64 ((s.size : Nat) : Int)))) (g_convInt rfl rfl Tryd.underlying3 Tryd.underlying27 rfl) ?_
      refine T_val 63 hn hM rfl rfl rfl (v := (.int .u64 (iShl .u64 (iCut .u64 ((s.size : Nat) : Int)) 3))) (g_shl (n := 3) rfl rfl rfl rfl) ?_
      refine T_val 64 hn hM rfl rfl rfl (v := (.int .i64 ((56 - 8 * k : Nat) : Int))) (g_move rfl rfl) ?_
      refine T_val 65 hn hM rfl rfl rfl (v := (.int .u64 (iShr .u64 (iShl .u64 (iCut .u64 ((s.size : Nat) : Int)) 3) (56 - 8 * k)))) (g_shr (n := (56 - 8 * k)) rfl rfl rfl rfl) ?_
      refine T_val 66 hn hM rfl rfl rfl (v := (.int .u8 (tailF s.size k))) (g_convInt rfl rfl Tryd.underlying27 Tryd.underlying5 rfl) ?_
      refine T_callX (K := fun w' => Mem w0 [] w' [⟨b1, (arr .u64 8 (hInit g0 8)), 67, true⟩, ⟨b0, #[(.int .i64 64), (.int .i64 80), (.int .i64 1), (.int .i64 8), (.int .i64 7), (.int .i64 19), (.int .i64 61), (.int .i64 6), (.int .i64 28), (.int .i64 34), (.int .i64 39), (.int .i64 14), (.int .i64 18), (.int .i64 41)], 41, true⟩, ⟨bl, cL, 9, false⟩, ⟨0, (arr .u64 8 g0), 67, false⟩, ⟨1, (arr .u64 80 g1), 101, false⟩] ∧ Lib.IsBuilder 73 5 b2 b2 (Lib.byteCells (bytesTo (tailF s.size) (k + 1))) w') 67 hn rfl rfl rfl rfl rfl Tryd.func33 nm33 bd33 (wb_call (k := k) hM hge hlt hB (by omega) (u8_bd _)) (fun w hMB => ?_)
      obtain ⟨hM, hB⟩ := hMB
      refine T_end ?_
      refine x_norm ?_
      refine x_next ?_
      refine wp_region_lit ?_
      refine T_val 59 hn hM rfl rfl rfl (v := (.int .i64 ((56 - 8 * k : Nat) : Int))) (g_move rfl rfl) ?_
      refine T_val 60 hn hM rfl rfl rfl (v := (.int .i64 (56 - 8 * ((k + 1 : Nat) : Int)))) (g_int rfl rfl rfl rfl (sub56 hk)) ?_
      refine T_val 13 hn hM rfl rfl rfl (v := (.int .i64 (56 - 8 * ((k + 1 : Nat) : Int)))) (g_assign rfl rfl) ?_
      refine T_nil ?_
      exact frame_ex [(2, (.pointer (some ⟨b0, 0, none⟩))), (5, (.pointer (some ⟨b1, 0, none⟩))), (7, (.int .i64 128)), (9, (.string (s ++ (⟨#[128]⟩ ++ zerosS (padN s.size + 16 - 8))))), (10, (.int .i64 ((s.size : Nat) : Int))), (12, (.pointer (some ⟨b2, 0, none⟩))), (13, (.int .i64 (56 - 8 * (((k + 1) : Nat) : Int))))] hn hdf rfl rfl ⟨rfl, rfl, rfl, rfl, rfl, rfl, rfl, trivial⟩ ⟨hM, hB⟩
    · intro a w hI
      obtain ⟨A, hn, hdf, rfl, hM, hB⟩ := hI
      refine wp_seq ?_
      refine wp_seq ?_
      refine wp_region_lit ?_
      refine T_val 57 hn hM rfl rfl rfl (v := (.int .i64 (56 - 8 * ((8 : Nat) : Int)))) (g_move rfl rfl) ?_
      refine T_val 58 hn hM rfl rfl rfl (v := (.bool false)) (g_int rfl rfl rfl rfl rfl) ?_
      refine T_nil ?_
      refine C_condF hn rfl rfl ?_
      refine wp_exit ?_
      refine x_thenE ?_
      refine x_thenE ?_
      refine x_in ?_
      refine x_next ?_
      refine wp_seq ?_
      refine wp_region_lit ?_
      refine T_val 68 hn hM rfl rfl rfl (v := (.string (s ++ (⟨#[128]⟩ ++ zerosS (padN s.size + 16 - 8))))) (g_move rfl rfl) ?_
      refine T_callX (v := .string (strOf 8 (tailF s.size))) (K := fun w' => Mem w0 [] w' [⟨b1, (arr .u64 8 (hInit g0 8)), 67, true⟩, ⟨b0, #[(.int .i64 64), (.int .i64 80), (.int .i64 1), (.int .i64 8), (.int .i64 7), (.int .i64 19), (.int .i64 61), (.int .i64 6), (.int .i64 28), (.int .i64 34), (.int .i64 39), (.int .i64 14), (.int .i64 18), (.int .i64 41)], 41, true⟩, ⟨bl, cL, 9, false⟩, ⟨0, (arr .u64 8 g0), 67, false⟩, ⟨1, (arr .u64 80 g1), 101, false⟩]) 69 hn rfl rfl rfl rfl rfl Tryd.func34 nm34 bd34 (st_call hM hge hlt hB) (fun w hM => ?_)
      refine T_val 70 hn hM rfl rfl rfl (v := (.string (padS s))) (g_catS rfl rfl rfl (by rw [size_app, size_app, zerosS_size, strOf_size]; show _ + (1 + _) + 8 ≤ _; omega)) ?_
      refine T_val 9 hn hM rfl rfl rfl (v := (.string (padS s))) (g_assign rfl rfl) ?_
      refine T_nil ?_
      refine wp_seq ?_
      refine wp_block ?_
      refine C_loop (fun k a w => ∃ A : Act, A.tmps.size = 100 ∧ A.defers = [] ∧ a = putAll A [(2, (.pointer (some ⟨b0, 0, none⟩))), (5, (.pointer (some ⟨b1, 0, none⟩))), (7, (.int .i64 128)), (9, (.string (restS (padS s) k)))] ∧ Mem w0 [] w [⟨b1, (arr .u64 8 (hBlocks g0 g1 (padS s) k)), 67, true⟩, ⟨b0, #[(.int .i64 64), (.int .i64 80), (.int .i64 1), (.int .i64 8), (.int .i64 7), (.int .i64 19), (.int .i64 61), (.int .i64 6), (.int .i64 28), (.int .i64 34), (.int .i64 39), (.int .i64 14), (.int .i64 18), (.int .i64 41)], 41, true⟩, ⟨bl, cL, 9, false⟩, ⟨0, (arr .u64 8 g0), 67, false⟩, ⟨1, (arr .u64 80 g1), 101, false⟩]) ((padS s).size / 128) ?_ ?_ ?_
      · skip
        exact frame_ex [(2, (.pointer (some ⟨b0, 0, none⟩))), (5, (.pointer (some ⟨b1, 0, none⟩))), (7, (.int .i64 128)), (9, (.string (restS (padS s) 0)))] hn hdf rfl rfl ⟨rfl, rfl, rfl, rfl, trivial⟩ hM
      · intro k hk a w hI
        obtain ⟨A, hn, hdf, rfl, hM⟩ := hI
        have hsz := restS_size (padS s) k
        have hsm := padS_mod s
        have hk2 : 128 * k + 128 ≤ (padS s).size := by omega
        refine wp_seq ?_
        refine wp_seq ?_
        refine wp_region_lit ?_
        refine T_val 71 hn hM rfl rfl rfl (v := (.string (restS (padS s) k))) (g_move rfl rfl) ?_
        refine T_val 72 hn hM rfl rfl rfl (v := (.int .i64 (((restS (padS s) k).size : Nat) : Int))) (g_lenStr rfl rfl Tryd.underlying9 rfl) ?_
        refine T_val 73 hn hM rfl rfl rfl (v := (.bool true)) (g_int rfl rfl rfl rfl (gtr0_nat _ true (decide_eq_true (by omega)))) ?_
        refine T_nil ?_
        refine C_condT hn rfl rfl ?_
        refine wp_skip ?_
        refine x_next ?_
        refine wp_seq ?_
        refine wp_block ?_
        refine R_any [.val, .val, .val, .val] 4 [] [] hn hM rfl (by kernel_rfl) (by kernel_rfl) rfl rfl rfl ?_
        refine E_val 77 rfl rfl rfl rfl (v := (.agg #[(.int .i64 64), (.int .i64 80), (.int .i64 1), (.int .i64 8), (.int .i64 7), (.int .i64 19), (.int .i64 61), (.int .i64 6), (.int .i64 28), (.int .i64 34), (.int .i64 39), (.int .i64 14), (.int .i64 18), (.int .i64 41)])) (g_loadRow 1 [(.int .i64 64), (.int .i64 80), (.int .i64 1), (.int .i64 8), (.int .i64 7), (.int .i64 19), (.int .i64 61), (.int .i64 6), (.int .i64 28), (.int .i64 34), (.int .i64 39), (.int .i64 14), (.int .i64 18), (.int .i64 41)] rfl rfl rfl Tryd.underlying41 rfl sz41 rfl) ?_
        refine E_val 78 rfl rfl rfl rfl (v := (.string (restS (padS s) k))) (g_move rfl rfl) ?_
        refine E_val 79 rfl rfl rfl rfl (v := (.int .i64 128)) (g_move rfl rfl) ?_
        refine E_val 80 rfl rfl rfl rfl (v := (.string ((restS (padS s) k).extract 0 128))) (g_sliceS 0 128 rfl rfl Tryd.underlying9 (fun y hy => nomatch hy) (fun _ => rfl) (fun y hy => by cases hy; exact ⟨_, rfl⟩) (fun h => nomatch h) (by omega) (by omega)) ?_
        refine E_nil ?_
        refine ⟨?_, fun β3 w hM => ?_⟩
        · skip
          refine M_val rfl ?_
          refine M_val rfl ?_
          refine M_val rfl ?_
          refine M_val rfl ?_
          exact M_nil
        show wpList _ _ _ (_ :: _) (putAll _ (_)) _
        refine T_callW 81 hn hM rfl rfl rfl rfl rfl Tryd.func35 nm35 bd35 (v := (.tuple #[])) (m' := [⟨b1, (arr .u64 8 (hBlocks g0 g1 (padS s) (k + 1))), 67, true⟩, ⟨b0, #[(.int .i64 64), (.int .i64 80), (.int .i64 1), (.int .i64 8), (.int .i64 7), (.int .i64 19), (.int .i64 61), (.int .i64 6), (.int .i64 28), (.int .i64 34), (.int .i64 39), (.int .i64 14), (.int .i64 18), (.int .i64 41)], 41, true⟩, ⟨bl, cL, 9, false⟩, ⟨0, (arr .u64 8 g0), 67, false⟩, ⟨1, (arr .u64 80 g1), 101, false⟩]) ((mix_W _ (by rw [size_extract _ _ _ (by omega)]) g1 (hBlocks g0 g1 (padS s) k) w (hM.get 0 rfl) (hM.get 4 rfl) (hM.ne (i := 0) (j := 4) rfl rfl (by decide))).mono (fun e w' h => ⟨h.1, hM.call1 0 rfl rfl h.2⟩)) (fun w hM => ?_)
        refine T_end ?_
        refine x_norm ?_
        refine x_next ?_
        refine wp_region_lit ?_
        refine T_val 74 hn hM rfl rfl rfl (v := (.string (restS (padS s) k))) (g_move rfl rfl) ?_
        refine T_val 75 hn hM rfl rfl rfl (v := (.int .i64 128)) (g_move rfl rfl) ?_
        refine T_val 76 hn hM rfl rfl rfl (v := (.string (restS (padS s) (k + 1)))) (g_sliceS 128 (restS (padS s) k).size rfl rfl Tryd.underlying9 (fun y hy => by cases hy; exact ⟨_, rfl⟩) (fun h => nomatch h) (fun y hy => nomatch hy) (fun _ => rfl) (by omega) (Nat.le_refl _)) ?_
        refine T_val 9 hn hM rfl rfl rfl (v := (.string (restS (padS s) (k + 1)))) (g_assign rfl rfl) ?_
        refine T_nil ?_
        exact frame_ex [(2, (.pointer (some ⟨b0, 0, none⟩))), (5, (.pointer (some ⟨b1, 0, none⟩))), (7, (.int .i64 128)), (9, (.string (restS (padS s) (k + 1))))] hn hdf rfl rfl ⟨rfl, rfl, rfl, rfl, trivial⟩ hM
      · intro a w hI
        obtain ⟨A, hn, hdf, rfl, hM⟩ := hI
        have hsz := restS_size (padS s) ((padS s).size / 128)
        have hsm := padS_mod s
        refine wp_seq ?_
        refine wp_seq ?_
        refine wp_region_lit ?_
        refine T_val 71 hn hM rfl rfl rfl (v := (.string (restS (padS s) ((padS s).size / 128)))) (g_move rfl rfl) ?_
        refine T_val 72 hn hM rfl rfl rfl (v := (.int .i64 (((restS (padS s) ((padS s).size / 128)).size : Nat) : Int))) (g_lenStr rfl rfl Tryd.underlying9 rfl) ?_
        refine T_val 73 hn hM rfl rfl rfl (v := (.bool false)) (g_int rfl rfl rfl rfl (gtr0_nat _ false (decide_eq_false (by omega)))) ?_
        refine T_nil ?_
        refine C_condF hn rfl rfl ?_
        refine wp_exit ?_
        refine x_thenE ?_
        refine x_thenE ?_
        refine x_in ?_
        refine x_next ?_
        refine wp_seq ?_
        refine wp_region_lit ?_
        refine T_allocB (e := 5) 14 hn hM rfl rfl rfl rfl Tryd.zeroValue73 (fun b3 w hge hlt _ hB hM => ?_)
        refine T_nil ?_
        refine wp_seq ?_
        refine wp_seq ?_
        refine wp_region_lit ?_
        refine T_val 82 hn hM rfl rfl rfl (v := (.agg (arr .u64 8 (hBlocks g0 g1 (padS s) ((padS s).size / 128))))) (g_loadAll 0 rfl rfl rfl Tryd.underlying67 rfl (by rw [arr_len]; exact sz67)) ?_
        refine T_val 83 hn hM rfl rfl rfl (v := (.int .i64 0)) (g_move rfl rfl) ?_
        refine T_nil ?_
        refine wp_block ?_
        refine C_loop (fun j a w => ∃ A : Act, A.tmps.size = 100 ∧ A.defers = [] ∧ a = putAll A [(2, (.pointer (some ⟨b0, 0, none⟩))), (14, (.pointer (some ⟨b3, 0, none⟩))), (82, (.agg (arr .u64 8 (hBlocks g0 g1 (padS s) ((padS s).size / 128))))), (83, (.int .i64 ((j : Nat) : Int)))] ∧ Mem w0 [] w [⟨b1, (arr .u64 8 (hBlocks g0 g1 (padS s) ((padS s).size / 128))), 67, true⟩, ⟨b0, #[(.int .i64 64), (.int .i64 80), (.int .i64 1), (.int .i64 8), (.int .i64 7), (.int .i64 19), (.int .i64 61), (.int .i64 6), (.int .i64 28), (.int .i64 34), (.int .i64 39), (.int .i64 14), (.int .i64 18), (.int .i64 41)], 41, true⟩, ⟨bl, cL, 9, false⟩, ⟨0, (arr .u64 8 g0), 67, false⟩, ⟨1, (arr .u64 80 g1), 101, false⟩] ∧ Lib.IsBuilder 73 5 b3 b3 (Lib.byteCells (bytesTo (outF (hBlocks g0 g1 (padS s) ((padS s).size / 128))) (8 * j))) w) 8 ?_ ?_ ?_
        · skip
          exact frame_ex [(2, (.pointer (some ⟨b0, 0, none⟩))), (14, (.pointer (some ⟨b3, 0, none⟩))), (82, (.agg (arr .u64 8 (hBlocks g0 g1 (padS s) ((padS s).size / 128))))), (83, (.int .i64 ((0 : Nat) : Int)))] hn hdf rfl rfl ⟨rfl, rfl, rfl, rfl, trivial⟩ ⟨hM, hB⟩
        · intro j hj a w hI
          obtain ⟨A, hn, hdf, rfl, hM, hB⟩ := hI
          refine wp_seq ?_
          refine wp_region_lit ?_
          refine T_val 84 hn hM rfl rfl rfl (v := (.bool true)) (g_int rfl rfl rfl rfl (lss_nat j 8 true (decide_eq_true (by omega)))) ?_
          refine T_nil ?_
          refine wp_seq ?_
          refine C_condT hn rfl rfl ?_
          refine wp_skip ?_
          refine x_next ?_
          refine wp_seq ?_
          refine wp_block ?_
          refine wp_seq ?_
          refine wp_region_lit ?_
          refine T_val 85 hn hM rfl rfl rfl (v := (.int .u64 ((hBlocks g0 g1 (padS s) ((padS s).size / 128)) j))) (g_indexArr j rfl rfl rfl Tryd.underlying67 Tryd.underlying27 Tryd.sizeOf27 (by omega)) ?_
          refine T_val 16 hn hM rfl rfl rfl (v := (.int .u64 ((hBlocks g0 g1 (padS s) ((padS s).size / 128)) j))) (g_assign rfl rfl) ?_
          refine T_nil ?_
          refine wp_seq ?_
          refine wp_region_lit ?_
          refine T_val 86 hn hM rfl rfl rfl (v := (.pointer (some ⟨b0, 0, none⟩))) (g_fieldAddr rfl rfl Tryd.underlying41 rfl Tryd.sizeOf3 0 rfl) ?_
          refine T_val 87 hn hM rfl rfl rfl (v := (.int .i64 64)) (g_loadOne 1 rfl rfl rfl Tryd.underlying3 rfl rfl) ?_
          refine T_val 88 hn hM rfl rfl rfl (v := (.int .i64 56)) (g_int rfl rfl rfl rfl rfl) ?_
          refine T_val 17 hn hM rfl rfl rfl (v := (.int .i64 56)) (g_assign rfl rfl) ?_
          refine T_nil ?_
          refine wp_block ?_
          refine C_loop (fun k a w => ∃ A : Act, A.tmps.size = 100 ∧ A.defers = [] ∧ a = putAll A [(2, (.pointer (some ⟨b0, 0, none⟩))), (14, (.pointer (some ⟨b3, 0, none⟩))), (16, (.int .u64 ((hBlocks g0 g1 (padS s) ((padS s).size / 128)) j))), (82, (.agg (arr .u64 8 (hBlocks g0 g1 (padS s) ((padS s).size / 128))))), (83, (.int .i64 ((j : Nat) : Int))), (17, (.int .i64 (56 - 8 * ((k : Nat) : Int))))] ∧ Mem w0 [] w [⟨b1, (arr .u64 8 (hBlocks g0 g1 (padS s) ((padS s).size / 128))), 67, true⟩, ⟨b0, #[(.int .i64 64), (.int .i64 80), (.int .i64 1), (.int .i64 8), (.int .i64 7), (.int .i64 19), (.int .i64 61), (.int .i64 6), (.int .i64 28), (.int .i64 34), (.int .i64 39), (.int .i64 14), (.int .i64 18), (.int .i64 41)], 41, true⟩, ⟨bl, cL, 9, false⟩, ⟨0, (arr .u64 8 g0), 67, false⟩, ⟨1, (arr .u64 80 g1), 101, false⟩] ∧ Lib.IsBuilder 73 5 b3 b3 (Lib.byteCells (bytesTo (outF (hBlocks g0 g1 (padS s) ((padS s).size / 128))) (8 * j + k))) w) 8 ?_ ?_ ?_
          · skip
            exact frame_ex [(2, (.pointer (some ⟨b0, 0, none⟩))), (14, (.pointer (some ⟨b3, 0, none⟩))), (16, (.int .u64 ((hBlocks g0 g1 (padS s) ((padS s).size / 128)) j))), (82, (.agg (arr .u64 8 (hBlocks g0 g1 (padS s) ((padS s).size / 128))))), (83, (.int .i64 ((j : Nat) : Int))), (17, (.int .i64 (56 - 8 * ((0 : Nat) : Int))))] hn hdf rfl rfl ⟨rfl, rfl, rfl, rfl, rfl, rfl, trivial⟩ ⟨hM, hB⟩
          · intro k hk a w hI
            obtain ⟨A, hn, hdf, rfl, hM, hB⟩ := hI
            have hj2 : (56 : Int) - 8 * (k : Int) = ((56 - 8 * k : Nat) : Int) := by omega
            rw [hj2]
            refine wp_seq ?_
            refine wp_seq ?_
            refine wp_region_lit ?_
            refine T_val 89 hn hM rfl rfl rfl (v := (.int .i64 ((56 - 8 * k : Nat) : Int))) (g_move rfl rfl) ?_
            refine T_val 90 hn hM rfl rfl rfl (v := (.bool true)) (g_int rfl rfl rfl rfl (geq_nat _)) ?_
            refine T_nil ?_
            refine C_condT hn rfl rfl ?_
            refine wp_skip ?_
            refine x_next ?_
            refine wp_seq ?_
            refine wp_block ?_
            refine wp_region_lit ?_
            refine T_val 93 hn hM rfl rfl rfl (v := (.int .u64 ((hBlocks g0 g1 (padS s) ((padS s).size / 128)) j))) (g_move rfl rfl) ?_
            refine T_val 94 hn hM rfl rfl rfl (v := (.int .i64 ((56 - 8 * k : Nat) : Int))) (g_move rfl rfl) ?_
            refine T_val 95 hn hM rfl rfl rfl (v := (.int .u64 (iShr .u64 ((hBlocks g0 g1 (padS s) ((padS s).size / 128)) j) (56 - 8 * k)))) (g_shr (n := (56 - 8 * k)) rfl rfl rfl rfl) ?_
            refine T_val 96 hn hM rfl rfl rfl (v := (.int .u8 (outF (hBlocks g0 g1 (padS s) ((padS s).size / 128)) (8 * j + k)))) (g_convInt rfl rfl Tryd.underlying27 Tryd.underlying5 (outF_at _ hk)) ?_
            refine T_callX (K := fun w' => Mem w0 [] w' [⟨b1, (arr .u64 8 (hBlocks g0 g1 (padS s) ((padS s).size / 128))), 67, true⟩, ⟨b0, #[(.int .i64 64), (.int .i64 80), (.int .i64 1), (.int .i64 8), (.int .i64 7), (.int .i64 19), (.int .i64 61), (.int .i64 6), (.int .i64 28), (.int .i64 34), (.int .i64 39), (.int .i64 14), (.int .i64 18), (.int .i64 41)], 41, true⟩, ⟨bl, cL, 9, false⟩, ⟨0, (arr .u64 8 g0), 67, false⟩, ⟨1, (arr .u64 80 g1), 101, false⟩] ∧ Lib.IsBuilder 73 5 b3 b3 (Lib.byteCells (bytesTo (outF (hBlocks g0 g1 (padS s) ((padS s).size / 128))) (8 * j + k + 1))) w') 97 hn rfl rfl rfl rfl rfl Tryd.func33 nm33 bd33 (wb_call (k := 8 * j + k) hM hge hlt hB (by omega) (u8_bd _)) (fun w hMB => ?_)
            obtain ⟨hM, hB⟩ := hMB
            refine T_end ?_
            refine x_norm ?_
            refine x_next ?_
            refine wp_region_lit ?_
            refine T_val 91 hn hM rfl rfl rfl (v := (.int .i64 ((56 - 8 * k : Nat) : Int))) (g_move rfl rfl) ?_
            refine T_val 92 hn hM rfl rfl rfl (v := (.int .i64 (56 - 8 * ((k + 1 : Nat) : Int)))) (g_int rfl rfl rfl rfl (sub56 hk)) ?_
            refine T_val 17 hn hM rfl rfl rfl (v := (.int .i64 (56 - 8 * ((k + 1 : Nat) : Int)))) (g_assign rfl rfl) ?_
            refine T_nil ?_
            exact frame_ex [(2, (.pointer (some ⟨b0, 0, none⟩))), (14, (.pointer (some ⟨b3, 0, none⟩))), (16, (.int .u64 ((hBlocks g0 g1 (padS s) ((padS s).size / 128)) j))), (82, (.agg (arr .u64 8 (hBlocks g0 g1 (padS s) ((padS s).size / 128))))), (83, (.int .i64 ((j : Nat) : Int))), (17, (.int .i64 (56 - 8 * (((k + 1) : Nat) : Int))))] hn hdf rfl rfl ⟨rfl, rfl, rfl, rfl, rfl, rfl, trivial⟩ ⟨hM, hB⟩
          · intro a w hI
            obtain ⟨A, hn, hdf, rfl, hM, hB⟩ := hI
            refine wp_seq ?_
            refine wp_seq ?_
            refine wp_region_lit ?_
            refine T_val 89 hn hM rfl rfl rfl (v := (.int .i64 (56 - 8 * ((8 : Nat) : Int)))) (g_move rfl rfl) ?_
            refine T_val 90 hn hM rfl rfl rfl (v := (.bool false)) (g_int rfl rfl rfl rfl rfl) ?_
            refine T_nil ?_
            refine C_condF hn rfl rfl ?_
            refine wp_exit ?_
            refine x_thenE ?_
            refine x_thenE ?_
            refine x_in ?_
            refine x_norm ?_
            refine x_next ?_
            refine wp_region_lit ?_
            refine T_val 98 hn hM rfl rfl rfl (v := (.int .i64 ((j + 1 : Nat) : Int))) (g_int rfl rfl rfl rfl (add_nat j 1 (by simp only [bitsOf]; omega))) ?_
            refine T_val 83 hn hM rfl rfl rfl (v := (.int .i64 ((j + 1 : Nat) : Int))) (g_move rfl rfl) ?_
            refine T_nil ?_
            exact frame_ex [(2, (.pointer (some ⟨b0, 0, none⟩))), (14, (.pointer (some ⟨b3, 0, none⟩))), (82, (.agg (arr .u64 8 (hBlocks g0 g1 (padS s) ((padS s).size / 128))))), (83, (.int .i64 (((j + 1) : Nat) : Int)))] hn hdf rfl rfl ⟨rfl, rfl, rfl, rfl, trivial⟩ ⟨hM, hB⟩
        · intro a w hI
          obtain ⟨A, hn, hdf, rfl, hM, hB⟩ := hI
          refine wp_seq ?_
          refine wp_region_lit ?_
          refine T_val 84 hn hM rfl rfl rfl (v := (.bool false)) (g_int rfl rfl rfl rfl (lss_nat 8 8 false (decide_eq_false (by omega)))) ?_
          refine T_nil ?_
          refine wp_seq ?_
          refine C_condF hn rfl rfl ?_
          refine wp_exit ?_
          refine x_thenE ?_
          refine x_thenE ?_
          refine x_in ?_
          refine x_next ?_
          refine wp_seq ?_
          refine wp_region_lit ?_
          refine T_callX (v := .string (strOf 64 (outF (hBlocks g0 g1 (padS s) ((padS s).size / 128))))) (K := fun w' => Mem w0 [] w' [⟨b1, (arr .u64 8 (hBlocks g0 g1 (padS s) ((padS s).size / 128))), 67, true⟩, ⟨b0, #[(.int .i64 64), (.int .i64 80), (.int .i64 1), (.int .i64 8), (.int .i64 7), (.int .i64 19), (.int .i64 61), (.int .i64 6), (.int .i64 28), (.int .i64 34), (.int .i64 39), (.int .i64 14), (.int .i64 18), (.int .i64 41)], 41, true⟩, ⟨bl, cL, 9, false⟩, ⟨0, (arr .u64 8 g0), 67, false⟩, ⟨1, (arr .u64 80 g1), 101, false⟩]) 99 hn rfl rfl rfl rfl rfl Tryd.func34 nm34 bd34 (st_call hM hge hlt hB) (fun w hM => ?_)
          refine T_val 4 hn hM rfl rfl rfl (v := (.string (strOf 64 (outF (hBlocks g0 g1 (padS s) ((padS s).size / 128)))))) (g_assign rfl rfl) ?_
          refine T_nil ?_
          refine wp_ret ?_
          refine leave (.inl rfl) hn hdf hM rfl Tryd.results17 (vs := [(.string (strOf 64 (outF (hBlocks g0 g1 (padS s) ((padS s).size / 128)))))]) (.tmp 4 rfl .nil) ?_
          exact ⟨rfl, hM.done⟩

end Go.Proofs.YtbonnnakebfniaaDoor

