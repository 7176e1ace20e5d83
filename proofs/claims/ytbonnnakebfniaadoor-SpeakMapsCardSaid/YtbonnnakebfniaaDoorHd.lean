/- Bytes as a number; heads of arrays; what Sum512 hands back. -/
import Derived.Test.YtbonnnakebfniaaDoorHb1
namespace Go.Mx
open Go Go.RowKit

theorem sByte_strOf {n : Nat} {f : Nat → Int} {i : Nat} (hi : i < n) (hf : 0 ≤ f i ∧ f i < 256) : sByte (strOf n f) i = f i := by
  have : ((strOf n f).data.toList.getD i 0) = UInt8.ofNat (f i).toNat := by
    show (((List.range n).map fun i => UInt8.ofNat (f i).toNat).toArray.toList.getD i 0) = _
    simp [List.getD_eq_getElem?_getD, hi]
  unfold sByte
  rw [this, UInt8.toNat_ofNat']
  omega

/-- The number of the first n bytes. -/
def leNum (f : Nat → Int) : Nat → Nat
  | 0 => 0
  | n + 1 => leNum f n + (f n).toNat * 2 ^ (8 * n)
theorem leNum_lt {f : Nat → Int} (hf : ∀ i, f i < 256) : ∀ n, leNum f n < 2 ^ (8 * n)
  | 0 => by simp [leNum]
  | n + 1 => by
    have ih := leNum_lt hf n
    have h1 := hf n
    have h2 : (f n).toNat ≤ 255 := by omega
    have h3 : (f n).toNat * 2 ^ (8 * n) ≤ 255 * 2 ^ (8 * n) := Nat.mul_le_mul_right _ h2
    rw [leNum, Nat.mul_succ, Nat.pow_add]
    generalize 2 ^ (8 * n) = p at *
    omega
theorem leNum_at {f : Nat → Int} (hf : ∀ i, f i < 256) : ∀ n i, i < n → dg 8 (leNum f n) i = (f i).toNat
  | 0, i, h => by omega
  | n + 1, i, h => by
    have hb : (f n).toNat < 256 := by have := hf n; omega
    unfold dg
    rw [Nat.shiftRight_eq_div_pow, leNum]
    by_cases hi : i < n
    · have ih := leNum_at hf n i hi
      unfold dg at ih
      rw [Nat.shiftRight_eq_div_pow] at ih
      have e : (f n).toNat * 2 ^ (8 * n) = 2 ^ (8 * i) * (256 * ((f n).toNat * 2 ^ (8 * (n - i - 1)))) := by
        have e1 : 2 ^ (8 * n) = 2 ^ (8 * i) * (2 ^ 8 * 2 ^ (8 * (n - i - 1))) := by
          rw [← Nat.pow_add, ← Nat.pow_add]
          congr 1
          omega
        rw [e1, show (2 : Nat) ^ 8 = 256 from rfl]
        ac_rfl
      rw [e, Nat.add_mul_div_left _ _ (Nat.two_pow_pos _), show (2 : Nat) ^ 8 = 256 from rfl, Nat.add_mul_mod_self_left]
      exact ih
    · have hin : i = n := by omega
      subst hin
      rw [Nat.add_mul_div_right _ _ (Nat.two_pow_pos _), Nat.div_eq_of_lt (leNum_lt hf i), Nat.zero_add]
      exact Nat.mod_eq_of_lt hb
theorem num_of {f : Nat → Int} (hf : ∀ i, 0 ≤ f i ∧ f i < 256) : ∃ x, x < 2 ^ 256 ∧ ∀ i, i < 32 → f i = dgF 8 x i := by
  refine ⟨leNum f 32, leNum_lt (fun i => (hf i).2) 32, fun i hi => ?_⟩
  unfold dgF
  rw [leNum_at (fun i => (hf i).2) 32 i hi]
  have := (hf i).1
  omega

section
variable {P : Program} {ops : Array Oper} {w0 w : World} {S : List Nat} {m : List Cl} {o : Oper} {ρ : Operand → Value}

theorem arr_head {k : IntKind} {n q : Nat} {f : Nat → Int} (h : q ≤ n) : ((arr k n f).toList.drop 0).take q = (arr k q f).toList := by
  rw [List.drop_zero]
  simp only [arr]
  rw [← List.map_take, List.take_range, Nat.min_eq_left h]

/-- The head of an array, as a smaller one. -/
theorem g_loadHead {ty : TypeId} {x : Operand} {b n q : Nat} {k : IntKind} {f : Nat → Int} {T : TypeId} {rw : Bool} {d : TypeDesc} (i : Nat) (ho : o.op = .load ty x) (hx : ρ x = .pointer (some ⟨b, 0, none⟩)) (hi : m[i]? = some ⟨b, arr k n f, T, rw⟩)
    (hu : P.underlying ty = some d) (hd : d.isRow = true) (hs : (P.info? ty).map (·.size) = some q) (hq : q ≤ n) : GV P w0 S m o ρ (.agg (arr k q f)) :=
  g_loadRow i (arr k q f).toList ho hx hi hu hd (by rw [arr_len]; exact hs) (by rw [arr_len]; exact arr_head hq)

theorem arr_mid {k : IntKind} {n a q : Nat} {f : Nat → Int} (h : a + q ≤ n) : ((arr k n f).toList.drop a).take q = (arr k q fun i => f (a + i)).toList := by
  refine List.ext_getElem? fun i => ?_
  by_cases hi : i < q
  · rw [List.getElem?_take_of_lt hi, List.getElem?_drop]
    have h1 : a + i < n := by omega
    simp [arr, hi, h1]
  · rw [List.getElem?_eq_none (by rw [List.length_take]; omega), List.getElem?_eq_none (by rw [arr_len]; omega)]

/-- Bytes, in a slice from within a block, as a string. -/
theorem g_bytesStrAt {src dst e : TypeId} {x : Operand} {b a n cap N : Nat} {f : Nat → Int} {T : TypeId} {rw : Bool} (i : Nat) (ho : o.op = .convert src dst x) (hx : ρ x = .slice (some ⟨b, a, none⟩) n cap) (hi : m[i]? = some ⟨b, arr .u8 N f, T, rw⟩) (hn : a + n ≤ N)
    (hs : P.underlying src = some (.slice e)) (he : P.underlying e = some (.int .u8)) (hd : P.underlying dst = some .string) : GV P w0 S m o ρ (.string (strOf n fun i => f (a + i))) := by
  intro w hM
  have hh := hM.get i hi
  simp only at hh
  have hl := run_loadCells_list (P := P) w ⟨b, a, none⟩ (((List.range n).map fun i => f (a + i)).map (Value.int .u8)) (fun j v hj => by
    have hlt : j < n := by
      have := (List.getElem?_eq_some_iff.1 hj).1
      simpa using this
    rw [Addr.add_mid]
    unfold World.cell?
    simp only [hh]
    rw [List.getElem?_map, List.getElem?_map, List.getElem?_range hlt] at hj
    simp only [Option.map_some, Option.some.injEq] at hj
    rw [← hj]
    have := arr_get (k := .u8) (f := f) (j := a + j) (n := N) (by omega)
    simpa using this)
  have hr : (convert src dst (.slice (some ⟨b, a, none⟩) n cap)).run P w = .ok (.string (strOf n fun i => f (a + i))) w := by
    rw [run_convert_bytes_string w src dst e (some ⟨b, a, none⟩) n cap hs he hd]
    simp only [List.length_map, List.length_range] at hl
    rw [run_bytesToString w _ n cap _ hl, foldl_push]
    simp only [strOf, List.map_map, Function.comp_def]
    rfl
  have : (execOp ρ o).run P w = .ok (.value (.string (strOf n fun i => f (a + i)))) w := by
    simp only [execOp, ho, hx, Sem.run_bind, hr, Result.andThen_ok]; rfl
  exact this

/-- A field of a struct that is a value. -/
theorem g_fieldV {s : TypeId} {x : Operand} {f : Nat} {cs cs' : Array Value} {fs : Array Field} {fld : Field} {k : Nat} (ho : o.op = .field s x f) (hx : ρ x = .agg cs) (hu : P.underlying s = some (.struct fs)) (hf : fs[f]? = some fld) (ha : ∀ w, (isAgg fld.type).run P w = .ok true w) (hs : ∀ w, (Go.sizeOf fld.type).run P w = .ok k w) (hc : cs.extract fld.offset (fld.offset + k) = cs') : GV P w0 S m o ρ (.agg cs') :=
  g_field ho hx fun w => by
    have h1 : (asAgg (.agg cs)).run P w = .ok cs w := rfl
    simp only [Instr.field, Sem.run_bind, run_underlying hu w, Result.andThen_ok, hf, part, h1, ha w, hs w, if_true, Sem.run_pure, hc]
end

theorem Mem.read2 (w : World) {a b : Nat} {x y : Array Value} {T U : TypeId} (h1 : w.heap[a]? = some (.cells x T (0, 0))) (h2 : w.heap[b]? = some (.cells y U (0, 0))) (hab : a ≠ b) : Mem w [] w [⟨a, x, T, false⟩, ⟨b, y, U, false⟩] :=
  ((Mem.start w).take h2 (fun h => (by cases h)) (by simp)).take h1 (fun h => (by cases h)) (by simpa using hab)
theorem one_cells {s : ByteArray} : ∀ (j : Nat) x, [s][j]? = some x → (#[.string s] : Array Value)[j]? = some (.string x) := by
  intro j x h
  match j, h with
  | 0, h => simp at h; subst h; rfl

/-- A secret's cells. -/
def secA (f : Nat → Int) (p : ByteArray) : Array Value := arr .u8 32 f ++ #[.string p]
theorem secA_ext (f : Nat → Int) (p : ByteArray) : (secA f p).extract 0 32 = arr .u8 32 f := by
  rw [← Array.toList_inj, secA, Array.toList_extract, Array.toList_append]
  simp only [List.extract, List.drop_zero, Nat.sub_zero]
  rw [List.take_append_of_le_length (by rw [arr_len]; exact Nat.le_refl _), List.take_of_length_le (by rw [arr_len]; exact Nat.le_refl _)]

theorem secA_ones (f : Nat → Int) (p : ByteArray) : (secA f p).toList.all (·.oneCell') = true := by
  rw [secA, Array.toList_append, List.all_append, arr_ones]
  rfl
end Go.Mx
namespace Go.Proofs.YtbonnnakebfniaaDoor
open Go Go.RowKit Mx
theorem sum_bd (g0 g1 : Nat → Int) (s : ByteArray) (i : Nat) : 0 ≤ sum64 g0 g1 s i ∧ sum64 g0 g1 s i < 256 := u8_bd _
/-- The sum of 32 bytes. -/
def sumOf (g0 g1 f : Nat → Int) : Nat → Int := sum64 g0 g1 (joinS [strOf 32 f])
theorem joinS_one (s : ByteArray) : joinS [s] = s := by
  unfold joinS
  rw [List.map_cons, List.map_nil, Lib.join_one]
end Go.Proofs.YtbonnnakebfniaaDoor

/- sha2.Sum512; edsign.open. -/
namespace Go.Proofs.YtbonnnakebfniaaDoor
open Go Go.RowKit Num Mx


theorem nm16 : (Tryd.f16.name == "runtime.NumGoroutine") = false := by kernel_rfl
theorem bd16 : Tryd.f16.body.isNone = false := by kernel_rfl
theorem nm17 : (Tryd.f17.name == "runtime.NumGoroutine") = false := by kernel_rfl
theorem bd17 : Tryd.f17.body.isNone = false := by kernel_rfl
theorem sz23 : (Tryd.prog.info? 23).map (·.size) = some 64 := by kernel_rfl

set_option maxHeartbeats 1000000 in
set_option maxRecDepth 100000 in
theorem sum512_E (g0 g1 : Nat → Int) (xs : List ByteArray) {cl : Nat} {cL : Array Value} (hL : ∀ (j : Nat) x, xs[j]? = some x → cL[j]? = some (.string x)) (hN : xs.length ≤ 140737488355328) (hcl : xs.length ≤ cl) (hlen : (joinS xs).size ≤ 70368744177664) (w0 : World) {bl : Nat}
    (hbl : w0.heap[bl]? = some (.cells cL 9 (0, 0))) (hg0 : w0.heap[0]? = some (.cells (arr .u64 8 g0) 67 (0, 0))) (hg1 : w0.heap[1]? = some (.cells (arr .u64 80 g1) 101 (0, 0))) (hb0 : bl ≠ 0) (hb1 : bl ≠ 1) :
    Calls Tryd.prog 4 #[.slice (some ⟨bl, 0, none⟩) xs.length cl] w0 fun e w' => e = .returned (.agg (arr .u8 64 (sum64 g0 g1 (joinS xs)))) ∧ Below w0.heap.size w0 w' := by
  refine enter Tryd.func4 rfl Tryd.ntmps4 (Nat.le_of_ble_eq_true rfl) fun A hn hdf => ?_
  have hM : Mem w0 [] w0 [⟨bl, cL, 9, false⟩, ⟨0, (arr .u64 8 g0), 67, false⟩, ⟨1, (arr .u64 80 g1), 101, false⟩] := Mem.read3 w0 hbl hg0 hg1 hb0 hb1 (by decide)
  replace hM := hM
  refine wp_seq ?_
  refine wp_region_lit ?_
  refine T_alloc 2 hn hM rfl rfl rfl rfl Tryd.zeroValue23 (arr .u8 64 (fun _ => 0)) (by rfl) (fun b0 w hM => ?_)
  refine T_nil ?_
  refine wp_seq ?_
  refine wp_region_lit ?_
  refine T_call 3 hn hM rfl rfl rfl (v := kind512V) (g_call kind512_E rfl rfl rfl Tryd.func16 nm16 bd16) (fun w hM => ?_)
  refine T_val 4 hn hM rfl rfl rfl (v := (.slice (some ⟨bl, 0, none⟩) xs.length cl)) (g_move rfl rfl) ?_
  refine T_call 5 hn hM rfl rfl rfl (v := (.string (strOf 64 (sum64 g0 g1 (joinS xs))))) (g_callM (fun w hM => sum_E g0 g1 xs hL hN hcl hlen w (hM.get 1 rfl) (hM.get 2 rfl) (hM.get 3 rfl) hb0 hb1) rfl rfl rfl Tryd.func17 nm17 bd17) (fun w hM => ?_)
  refine T_strBytes 6 hn hM rfl rfl rfl rfl rfl Tryd.underlying9 Tryd.underlying25 Tryd.underlying5 (fun bs cap cS frS w hcS hbS hM => ?_)
  refine T_val 7 hn hM rfl rfl rfl (v := (.pointer (some ⟨bs, 0, none⟩))) (g_arrPtr (_elem := 0) rfl rfl ⟨_, Tryd.underlying23⟩ (by rw [strOf_size]; exact Nat.le_refl _)) ?_
  have hld := run_loadF (P := Tryd.prog) (ty := 23) (n := 64) (T := 5) (o := { dst := some 8, op := .load 23 (.tmp 7), type := 0, pos := "", after := #[], guard := none }) (ρ := fun _ => .pointer (some ⟨bs, 0, none⟩)) rfl rfl hbS hcS (by rw [strOf_size]; exact Nat.le_refl _) Tryd.underlying23 rfl sz23
  rw [arr_congr (g := sum64 g0 g1 (joinS xs)) (fun i hi => sByte_strOf hi (sum_bd _ _ _ i))] at hld
  refine T_valW 8 hn rfl rfl rfl (v := (.agg (arr .u8 64 (sum64 g0 g1 (joinS xs))))) hld ?_
  refine T_store 0 hn hM rfl rfl rfl rfl rfl rfl rfl (c' := (arr .u8 64 (sum64 g0 g1 (joinS xs)))) (sets_allA sz23 arr_len) (fun w hM => ?_)
  replace hM : Mem _ _ w [⟨b0, (arr .u8 64 (sum64 g0 g1 (joinS xs))), 23, true⟩, ⟨bl, cL, 9, false⟩, ⟨0, (arr .u64 8 g0), 67, false⟩, ⟨1, (arr .u64 80 g1), 101, false⟩] := hM
  refine T_nil ?_
  refine wp_ret ?_
  refine leave (.inl rfl) hn hdf hM rfl Tryd.results4 (vs := [(.agg (arr .u8 64 (sum64 g0 g1 (joinS xs))))]) (.row 0 rfl rfl Tryd.underlying23 rfl (by rw [arr_len]; exact sz23) .nil) ?_
  exact ⟨rfl, hM.done⟩

theorem nm4 : (Tryd.f4.name == "runtime.NumGoroutine") = false := by kernel_rfl
theorem bd4 : Tryd.f4.body.isNone = false := by kernel_rfl
theorem sz52 : (Tryd.prog.info? 52).map (·.size) = some 33 := by kernel_rfl

set_option maxHeartbeats 1000000 in
set_option maxRecDepth 100000 in
theorem open_E (g0 g1 f : Nat → Int) {x : Nat} (hx : ∀ i, i < 32 → sumOf g0 g1 f i = dgF 8 x i) (w0 : World) (hg0 : w0.heap[0]? = some (.cells (arr .u64 8 g0) 67 (0, 0))) (hg1 : w0.heap[1]? = some (.cells (arr .u64 80 g1) 101 (0, 0))) :
    Calls Tryd.prog 21 #[.agg (arr .u8 32 f)] w0 fun e w' => e = .returned (.agg (secA (dgF 8 (clampN x)) (strOf 32 fun i => sumOf g0 g1 f (32 + i)))) ∧ Below w0.heap.size w0 w' := by
  refine enter Tryd.func21 rfl Tryd.ntmps21 (Nat.le_of_ble_eq_true rfl) fun A hn hdf => ?_
  have hM : Mem w0 [] w0 [⟨0, (arr .u64 8 g0), 67, false⟩, ⟨1, (arr .u64 80 g1), 101, false⟩] := Mem.read2 w0 hg0 hg1 (by decide)
  replace hM := hM
  refine wp_seq ?_
  refine wp_region_lit ?_
  refine T_box 1 hn hM rfl rfl rfl rfl rfl (arr .u8 32 f) rfl (fun b0 w hM => ?_)
  refine T_alloc 2 hn hM rfl rfl rfl rfl Tryd.zeroValue52 #[(.int .u8 0), (.int .u8 0), (.int .u8 0), (.int .u8 0), (.int .u8 0), (.int .u8 0), (.int .u8 0), (.int .u8 0), (.int .u8 0), (.int .u8 0), (.int .u8 0), (.int .u8 0), (.int .u8 0), (.int .u8 0), (.int .u8 0), (.int .u8 0), (.int .u8 0), (.int .u8 0), (.int .u8 0), (.int .u8 0), (.int .u8 0), (.int .u8 0), (.int .u8 0), (.int .u8 0), (.int .u8 0), (.int .u8 0), (.int .u8 0), (.int .u8 0), (.int .u8 0), (.int .u8 0), (.int .u8 0), (.int .u8 0), (.string ByteArray.empty)] rfl (fun b1 w hM => ?_)
  refine T_nil ?_
  refine wp_seq ?_
  refine wp_region_lit ?_
  refine T_val 5 hn hM rfl rfl rfl (v := (.slice (some ⟨b0, 0, none⟩) 32 32)) (g_sliceArr rfl rfl Tryd.underlying22 Tryd.sizeOf5) ?_
  refine T_val 6 hn hM rfl rfl rfl (v := (.string (strOf 32 f))) (g_bytesStr 1 rfl rfl rfl (by omega) Tryd.underlying25 Tryd.underlying5 Tryd.underlying9) ?_
  refine T_buildSlice (sz := 1) (z := .string ByteArray.empty) 7 hn hM rfl rfl rfl rfl Tryd.underlying38 Tryd.sizeOf9 Tryd.zeroValue9 (by decide) (by decide) #[(.string (strOf 32 f))] (by kernel_rfl) (fun b2 w hM => ?_)
  refine T_call 8 hn hM rfl rfl rfl (v := (.agg (arr .u8 64 (sumOf g0 g1 f)))) (g_callM (fun w hM => sum512_E g0 g1 [(strOf 32 f)] (cl := 1) (cL := #[.string (strOf 32 f)]) one_cells (Nat.le_of_ble_eq_true rfl) (Nat.le_refl 1) (by rw [joinS_one, strOf_size]; decide) w (hM.get 0 rfl) (hM.get 3 rfl) (hM.get 4 rfl) (hM.ne (i := 0) (j := 3) rfl rfl (by decide)) (hM.ne (i := 0) (j := 4) rfl rfl (by decide))) rfl rfl rfl Tryd.func4 nm4 bd4) (fun w hM => ?_)
  refine T_alloc 3 hn hM rfl rfl rfl rfl Tryd.zeroValue23 (arr .u8 64 (fun _ => 0)) (by rfl) (fun b3 w hM => ?_)
  refine T_store 0 hn hM rfl rfl rfl rfl rfl rfl rfl (c' := (arr .u8 64 (sumOf g0 g1 f))) (sets_allA sz23 arr_len) (fun w hM => ?_)
  replace hM : Mem _ _ w [⟨b3, (arr .u8 64 (sumOf g0 g1 f)), 23, true⟩, ⟨b2, #[(.string (strOf 32 f))], 9, true⟩, ⟨b1, #[(.int .u8 0), (.int .u8 0), (.int .u8 0), (.int .u8 0), (.int .u8 0), (.int .u8 0), (.int .u8 0), (.int .u8 0), (.int .u8 0), (.int .u8 0), (.int .u8 0), (.int .u8 0), (.int .u8 0), (.int .u8 0), (.int .u8 0), (.int .u8 0), (.int .u8 0), (.int .u8 0), (.int .u8 0), (.int .u8 0), (.int .u8 0), (.int .u8 0), (.int .u8 0), (.int .u8 0), (.int .u8 0), (.int .u8 0), (.int .u8 0), (.int .u8 0), (.int .u8 0), (.int .u8 0), (.int .u8 0), (.int .u8 0), (.string ByteArray.empty)], 52, true⟩, ⟨b0, (arr .u8 32 f), 22, true⟩, ⟨0, (arr .u64 8 g0), 67, false⟩, ⟨1, (arr .u64 80 g1), 101, false⟩] := hM
  refine T_nil ?_
  refine wp_seq ?_
  refine wp_region_lit ?_
  refine T_val 9 hn hM rfl rfl rfl (v := (.slice (some ⟨b3, 0, none⟩) 32 64)) (g_sliceArrTo (h := 32) rfl rfl rfl Tryd.underlying23 Tryd.sizeOf5 (by decide)) ?_
  refine T_val 10 hn hM rfl rfl rfl (v := (.pointer (some ⟨b3, 0, none⟩))) (g_arrPtr (_elem := 0) rfl rfl ⟨_, Tryd.underlying22⟩ (by decide)) ?_
  refine T_val 11 hn hM rfl rfl rfl (v := (.agg (arr .u8 32 (dgF 8 x)))) (by rw [← arr_congr hx]; exact (g_loadHead 0 rfl rfl rfl Tryd.underlying22 rfl sz22 (by decide))) ?_
  refine T_alloc 4 hn hM rfl rfl rfl rfl Tryd.zeroValue22 (arr .u8 32 (fun _ => 0)) (by rfl) (fun b4 w hM => ?_)
  refine T_store 0 hn hM rfl rfl rfl rfl rfl rfl rfl (c' := (arr .u8 32 (dgF 8 x))) (sets_allA sz22 arr_len) (fun w hM => ?_)
  replace hM : Mem _ _ w [⟨b4, (arr .u8 32 (dgF 8 x)), 22, true⟩, ⟨b3, (arr .u8 64 (sumOf g0 g1 f)), 23, true⟩, ⟨b2, #[(.string (strOf 32 f))], 9, true⟩, ⟨b1, #[(.int .u8 0), (.int .u8 0), (.int .u8 0), (.int .u8 0), (.int .u8 0), (.int .u8 0), (.int .u8 0), (.int .u8 0), (.int .u8 0), (.int .u8 0), (.int .u8 0), (.int .u8 0), (.int .u8 0), (.int .u8 0), (.int .u8 0), (.int .u8 0), (.int .u8 0), (.int .u8 0), (.int .u8 0), (.int .u8 0), (.int .u8 0), (.int .u8 0), (.int .u8 0), (.int .u8 0), (.int .u8 0), (.int .u8 0), (.int .u8 0), (.int .u8 0), (.int .u8 0), (.int .u8 0), (.int .u8 0), (.int .u8 0), (.string ByteArray.empty)], 52, true⟩, ⟨b0, (arr .u8 32 f), 22, true⟩, ⟨0, (arr .u64 8 g0), 67, false⟩, ⟨1, (arr .u64 80 g1), 101, false⟩] := hM
  refine T_nil ?_
  refine wp_seq ?_
  refine wp_region_lit ?_
  refine T_val 12 hn hM rfl rfl rfl (v := (.pointer (some ⟨b4, 0, none⟩))) (g_indexAddr 0 rfl rfl rfl Tryd.underlying22 Tryd.sizeOf5 (by decide) rfl) ?_
  refine T_val 13 hn hM rfl rfl rfl (v := (.int .u8 ((dgF 8 x) 0))) (g_loadOne 0 rfl rfl rfl Tryd.underlying5 rfl (arr_get (by omega))) ?_
  refine T_val 14 hn hM rfl rfl rfl (v := (.int .u8 ((dg 8 x 0 &&& 248 : Nat) : Int))) (g_int rfl rfl rfl rfl (andNot7 _ (dg_lt 8 _ _))) ?_
  refine T_val 15 hn hM rfl rfl rfl (v := (.pointer (some ⟨b4, 0, none⟩))) (g_indexAddr 0 rfl rfl rfl Tryd.underlying22 Tryd.sizeOf5 (by decide) rfl) ?_
  refine T_store 0 hn hM rfl rfl rfl rfl rfl rfl rfl (c' := (arr .u8 32 (upd (dgF 8 x) 0 ((dg 8 x 0 &&& 248 : Nat) : Int)))) (sets_arr sz5 (by omega) (fun q _ => rfl)) (fun w hM => ?_)
  replace hM : Mem _ _ w [⟨b4, (arr .u8 32 (upd (dgF 8 x) 0 ((dg 8 x 0 &&& 248 : Nat) : Int))), 22, true⟩, ⟨b3, (arr .u8 64 (sumOf g0 g1 f)), 23, true⟩, ⟨b2, #[(.string (strOf 32 f))], 9, true⟩, ⟨b1, #[(.int .u8 0), (.int .u8 0), (.int .u8 0), (.int .u8 0), (.int .u8 0), (.int .u8 0), (.int .u8 0), (.int .u8 0), (.int .u8 0), (.int .u8 0), (.int .u8 0), (.int .u8 0), (.int .u8 0), (.int .u8 0), (.int .u8 0), (.int .u8 0), (.int .u8 0), (.int .u8 0), (.int .u8 0), (.int .u8 0), (.int .u8 0), (.int .u8 0), (.int .u8 0), (.int .u8 0), (.int .u8 0), (.int .u8 0), (.int .u8 0), (.int .u8 0), (.int .u8 0), (.int .u8 0), (.int .u8 0), (.int .u8 0), (.string ByteArray.empty)], 52, true⟩, ⟨b0, (arr .u8 32 f), 22, true⟩, ⟨0, (arr .u64 8 g0), 67, false⟩, ⟨1, (arr .u64 80 g1), 101, false⟩] := hM
  refine T_nil ?_
  refine wp_seq ?_
  refine wp_region_lit ?_
  refine T_val 16 hn hM rfl rfl rfl (v := (.pointer (some ⟨b4, 31, none⟩))) (g_indexAddr 31 rfl rfl rfl Tryd.underlying22 Tryd.sizeOf5 (by decide) rfl) ?_
  refine T_val 17 hn hM rfl rfl rfl (v := (.int .u8 ((dg 8 x 31 : Nat) : Int))) (g_loadOne 0 rfl rfl rfl Tryd.underlying5 rfl (arr_get (by omega))) ?_
  refine T_val 18 hn hM rfl rfl rfl (v := (.int .u8 ((dg 8 x 31 &&& 63 : Nat) : Int))) (g_int rfl rfl rfl rfl (and_nat _ 63 (dg_lt 8 _ _) (by decide))) ?_
  refine T_val 19 hn hM rfl rfl rfl (v := (.int .u8 ((dg 8 x 31 &&& 63 ||| 64 : Nat) : Int))) (g_int rfl rfl rfl rfl (or_nat _ 64 (Nat.lt_of_le_of_lt Nat.and_le_left (dg_lt 8 _ _)) (by decide))) ?_
  refine T_val 20 hn hM rfl rfl rfl (v := (.pointer (some ⟨b4, 31, none⟩))) (g_indexAddr 31 rfl rfl rfl Tryd.underlying22 Tryd.sizeOf5 (by decide) rfl) ?_
  refine T_store 0 hn hM rfl rfl rfl rfl rfl rfl rfl (c' := (arr .u8 32 (dgF 8 (clampN x)))) (sets_arr sz5 (by omega) (clamp_upd x)) (fun w hM => ?_)
  replace hM : Mem _ _ w [⟨b4, (arr .u8 32 (dgF 8 (clampN x))), 22, true⟩, ⟨b3, (arr .u8 64 (sumOf g0 g1 f)), 23, true⟩, ⟨b2, #[(.string (strOf 32 f))], 9, true⟩, ⟨b1, #[(.int .u8 0), (.int .u8 0), (.int .u8 0), (.int .u8 0), (.int .u8 0), (.int .u8 0), (.int .u8 0), (.int .u8 0), (.int .u8 0), (.int .u8 0), (.int .u8 0), (.int .u8 0), (.int .u8 0), (.int .u8 0), (.int .u8 0), (.int .u8 0), (.int .u8 0), (.int .u8 0), (.int .u8 0), (.int .u8 0), (.int .u8 0), (.int .u8 0), (.int .u8 0), (.int .u8 0), (.int .u8 0), (.int .u8 0), (.int .u8 0), (.int .u8 0), (.int .u8 0), (.int .u8 0), (.int .u8 0), (.int .u8 0), (.string ByteArray.empty)], 52, true⟩, ⟨b0, (arr .u8 32 f), 22, true⟩, ⟨0, (arr .u64 8 g0), 67, false⟩, ⟨1, (arr .u64 80 g1), 101, false⟩] := hM
  refine T_nil ?_
  refine wp_seq ?_
  refine R_any [.val, .val, .val] 3 [] [] hn hM rfl (by kernel_rfl) (by kernel_rfl) rfl rfl rfl ?_
  refine E_val 21 rfl rfl rfl rfl (v := (.agg (arr .u8 32 (dgF 8 (clampN x))))) (g_loadAll 0 rfl rfl rfl Tryd.underlying22 rfl (by rw [arr_len]; exact sz22)) ?_
  refine E_val 22 rfl rfl rfl rfl (v := (.slice (some ⟨b3, 32, none⟩) 32 32)) (g_sliceArrFrom (l := 32) rfl rfl rfl Tryd.underlying23 Tryd.sizeOf5 (by decide) (by decide)) ?_
  refine E_val 23 rfl rfl rfl rfl (v := (.string (strOf 32 fun i => sumOf g0 g1 f (32 + i)))) (g_bytesStrAt 1 rfl rfl rfl (by decide) Tryd.underlying25 Tryd.underlying5 Tryd.underlying9) ?_
  refine E_nil ?_
  refine ⟨?_, fun β1 w hM => ?_⟩
  · skip
    refine M_val rfl ?_
    refine M_val rfl ?_
    refine M_val rfl ?_
    exact M_nil
  show wpList _ _ _ (_ :: _) (putAll _ (_)) _
  refine T_val 24 hn hM rfl rfl rfl (v := (.agg (secA (dgF 8 (clampN x)) (strOf 32 fun i => sumOf g0 g1 f (32 + i))))) (g_build rfl (by kernel_rfl)) ?_
  refine T_store 3 hn hM rfl rfl rfl rfl rfl rfl rfl (c' := (secA (dgF 8 (clampN x)) (strOf 32 fun i => sumOf g0 g1 f (32 + i)))) (sets_all sz52 (secA_ones _ _) rfl) (fun w hM => ?_)
  replace hM : Mem _ _ w [⟨b4, (arr .u8 32 (dgF 8 (clampN x))), 22, true⟩, ⟨b3, (arr .u8 64 (sumOf g0 g1 f)), 23, true⟩, ⟨b2, #[(.string (strOf 32 f))], 9, true⟩, ⟨b1, (secA (dgF 8 (clampN x)) (strOf 32 fun i => sumOf g0 g1 f (32 + i))), 52, true⟩, ⟨b0, (arr .u8 32 f), 22, true⟩, ⟨0, (arr .u64 8 g0), 67, false⟩, ⟨1, (arr .u64 80 g1), 101, false⟩] := hM
  refine T_nil ?_
  refine wp_ret ?_
  refine leave (.inl rfl) hn hdf hM rfl Tryd.results21 (vs := [(.agg (secA (dgF 8 (clampN x)) (strOf 32 fun i => sumOf g0 g1 f (32 + i))))]) (.row 3 rfl rfl Tryd.underlying52 rfl sz52 .nil) ?_
  exact ⟨rfl, hM.done⟩

end Go.Proofs.YtbonnnakebfniaaDoor

