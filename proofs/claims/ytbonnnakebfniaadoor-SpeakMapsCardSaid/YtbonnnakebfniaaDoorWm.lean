/- curve: Mult, Base. -/
import Derived.Test.YtbonnnakebfniaaDoorLa
namespace Go.Proofs.YtbonnnakebfniaaDoor
open Go Go.RowKit Num Mx


theorem nm7 : (Tryd.f7.name == "runtime.NumGoroutine") = false := by kernel_rfl
theorem bd7 : Tryd.f7.body.isNone = false := by kernel_rfl
theorem nm13 : (Tryd.f13.name == "runtime.NumGoroutine") = false := by kernel_rfl
theorem bd13 : Tryd.f13.body.isNone = false := by kernel_rfl
theorem nm15 : (Tryd.f15.name == "runtime.NumGoroutine") = false := by kernel_rfl
theorem bd15 : Tryd.f15.body.isNone = false := by kernel_rfl
theorem nm36 : (Tryd.f36.name == "runtime.NumGoroutine") = false := by kernel_rfl
theorem bd36 : Tryd.f36.body.isNone = false := by kernel_rfl
theorem nm37 : (Tryd.f37.name == "runtime.NumGoroutine") = false := by kernel_rfl
theorem bd37 : Tryd.f37.body.isNone = false := by kernel_rfl

noncomputable def multV (x u : Nat) : F := ((lad (clampN x).testBit (toF ((u % 2 ^ 255 : Nat) : Int)) 255).swap (wasB (clampN x).testBit 255)).ax * inv ((lad (clampN x).testBit (toF ((u % 2 ^ 255 : Nat) : Int)) 255).swap (wasB (clampN x).testBit 255)).az

set_option maxHeartbeats 1000000 in
set_option maxRecDepth 100000 in
theorem mult_E (x u : Nat) : Pure 18 #[.agg (arr .u8 32 (dgF 8 x)), .agg (arr .u8 32 (dgF 8 u))] (.tuple #[.agg (arr .u8 32 (dgF 8 (multV x u).val)), .bool (!decide (multV x u = 0))]) := by
  unfold multV
  obtain ⟨c1, hc1, pc1⟩ := of_E u
  obtain ⟨f, hf0, hfi, hstep⟩ := ladder_E (clampN x).testBit hc1
  obtain ⟨c2, hc2, pc2⟩ := invert_E (is_choose (b := wasB (clampN x).testBit 255) (hfi 255).bz (hfi 255).az rfl)
  obtain ⟨c3, hc3, pc3⟩ := mul_E (is_choose (b := wasB (clampN x).testBit 255) (hfi 255).bx (hfi 255).ax rfl) hc2
  intro w0
  refine enter Tryd.func18 rfl Tryd.ntmps18 (Nat.le_of_ble_eq_true rfl) fun A hn hdf => ?_
  have hM : Mem w0 [] w0 [] := Mem.start w0
  replace hM := hM
  refine wp_seq ?_
  refine wp_region_lit ?_
  refine T_box 2 hn hM rfl rfl rfl rfl rfl (arr .u8 32 (dgF 8 x)) rfl (fun b0 w hM => ?_)
  refine T_box 3 hn hM rfl rfl rfl rfl rfl (arr .u8 32 (dgF 8 u)) rfl (fun b1 w hM => ?_)
  refine T_alloc 4 hn hM rfl rfl rfl rfl Tryd.zeroValue22 (arr .u8 32 (fun _ => 0)) (by rfl) (fun b2 w hM => ?_)
  refine T_val 5 hn hM rfl rfl rfl (v := (.bool false)) (g_assign rfl rfl) ?_
  refine T_nil ?_
  refine wp_seq ?_
  refine wp_region_lit ?_
  refine T_val 13 hn hM rfl rfl rfl (v := (.pointer (some ⟨b0, 0, none⟩))) (g_indexAddr 0 rfl rfl rfl Tryd.underlying22 Tryd.sizeOf5 (by decide) rfl) ?_
  refine T_val 14 hn hM rfl rfl rfl (v := (.int .u8 ((dgF 8 x) 0))) (g_loadOne 2 rfl rfl rfl Tryd.underlying5 rfl (arr_get (by omega))) ?_
  refine T_val 15 hn hM rfl rfl rfl (v := (.int .u8 ((dg 8 x 0 &&& 248 : Nat) : Int))) (g_int rfl rfl rfl rfl (andNot7 _ (dg_lt 8 _ _))) ?_
  refine T_val 16 hn hM rfl rfl rfl (v := (.pointer (some ⟨b0, 0, none⟩))) (g_indexAddr 0 rfl rfl rfl Tryd.underlying22 Tryd.sizeOf5 (by decide) rfl) ?_
  refine T_store 2 hn hM rfl rfl rfl rfl rfl rfl rfl (c' := (arr .u8 32 (upd (dgF 8 x) 0 ((dg 8 x 0 &&& 248 : Nat) : Int)))) (sets_arr sz5 (by omega) (fun q _ => rfl)) (fun w hM => ?_)
  replace hM : Mem _ _ w [⟨b2, (arr .u8 32 (fun _ => 0)), 22, true⟩, ⟨b1, (arr .u8 32 (dgF 8 u)), 22, true⟩, ⟨b0, (arr .u8 32 (upd (dgF 8 x) 0 ((dg 8 x 0 &&& 248 : Nat) : Int))), 22, true⟩] := hM
  refine T_nil ?_
  refine wp_seq ?_
  refine wp_region_lit ?_
  refine T_val 17 hn hM rfl rfl rfl (v := (.pointer (some ⟨b0, 31, none⟩))) (g_indexAddr 31 rfl rfl rfl Tryd.underlying22 Tryd.sizeOf5 (by decide) rfl) ?_
  refine T_val 18 hn hM rfl rfl rfl (v := (.int .u8 ((dg 8 x 31 : Nat) : Int))) (g_loadOne 2 rfl rfl rfl Tryd.underlying5 rfl (arr_get (by omega))) ?_
  refine T_val 19 hn hM rfl rfl rfl (v := (.int .u8 ((dg 8 x 31 &&& 63 : Nat) : Int))) (g_int rfl rfl rfl rfl (and_nat _ 63 (dg_lt 8 _ _) (by decide))) ?_
  refine T_val 20 hn hM rfl rfl rfl (v := (.int .u8 ((dg 8 x 31 &&& 63 ||| 64 : Nat) : Int))) (g_int rfl rfl rfl rfl (or_nat _ 64 (Nat.lt_of_le_of_lt Nat.and_le_left (dg_lt 8 _ _)) (by decide))) ?_
  refine T_val 21 hn hM rfl rfl rfl (v := (.pointer (some ⟨b0, 31, none⟩))) (g_indexAddr 31 rfl rfl rfl Tryd.underlying22 Tryd.sizeOf5 (by decide) rfl) ?_
  refine T_store 2 hn hM rfl rfl rfl rfl rfl rfl rfl (c' := (arr .u8 32 (dgF 8 (clampN x)))) (sets_arr sz5 (by omega) (clamp_upd x)) (fun w hM => ?_)
  replace hM : Mem _ _ w [⟨b2, (arr .u8 32 (fun _ => 0)), 22, true⟩, ⟨b1, (arr .u8 32 (dgF 8 u)), 22, true⟩, ⟨b0, (arr .u8 32 (dgF 8 (clampN x))), 22, true⟩] := hM
  refine T_nil ?_
  refine wp_seq ?_
  refine wp_region_lit ?_
  refine T_val 22 hn hM rfl rfl rfl (v := (.slice (some ⟨b1, 0, none⟩) 32 32)) (g_sliceArr rfl rfl Tryd.underlying22 Tryd.sizeOf5) ?_
  refine T_val 23 hn hM rfl rfl rfl (v := (.string (strOf 32 (dgF 8 u)))) (g_bytesStr 1 rfl rfl rfl (by omega) Tryd.underlying25 Tryd.underlying5 Tryd.underlying9) ?_
  refine T_call 24 hn hM rfl rfl rfl (v := c1.v) (g_call pc1 rfl rfl rfl Tryd.func7 nm7 bd7) (fun w hM => ?_)
  refine T_alloc 6 hn hM rfl rfl rfl rfl Tryd.zeroValue30 #[(.int .u64 0), (.int .u64 0), (.int .u64 0), (.int .u64 0), (.int .u64 0)] rfl (fun b3 w hM => ?_)
  refine T_store 0 hn hM rfl rfl rfl rfl rfl rfl rfl (c' := #[(.int .u64 c1.l0), (.int .u64 c1.l1), (.int .u64 c1.l2), (.int .u64 c1.l3), (.int .u64 c1.l4)]) (sets_row sz30 rfl rfl rfl) (fun w hM => ?_)
  replace hM : Mem _ _ w [⟨b3, #[(.int .u64 c1.l0), (.int .u64 c1.l1), (.int .u64 c1.l2), (.int .u64 c1.l3), (.int .u64 c1.l4)], 30, true⟩, ⟨b2, (arr .u8 32 (fun _ => 0)), 22, true⟩, ⟨b1, (arr .u8 32 (dgF 8 u)), 22, true⟩, ⟨b0, (arr .u8 32 (dgF 8 (clampN x))), 22, true⟩] := hM
  refine T_nil ?_
  refine wp_seq ?_
  refine R_any [.val, .val, .val, .val, .val, .val, .alloc, .alloc, .store 6] 9 [⟨6, #[(.int .u64 0), (.int .u64 0), (.int .u64 0), (.int .u64 0), (.int .u64 0), (.int .u64 0), (.int .u64 0), (.int .u64 0), (.int .u64 0), (.int .u64 0)], #[(.int .u64 1), (.int .u64 0), (.int .u64 0), (.int .u64 0), (.int .u64 0), (.int .u64 0), (.int .u64 0), (.int .u64 0), (.int .u64 0), (.int .u64 0)], 81⟩, ⟨7, #[(.int .u64 0), (.int .u64 0), (.int .u64 0), (.int .u64 0), (.int .u64 0), (.int .u64 0), (.int .u64 0), (.int .u64 0), (.int .u64 0), (.int .u64 0)], #[(.int .u64 0), (.int .u64 0), (.int .u64 0), (.int .u64 0), (.int .u64 0), (.int .u64 0), (.int .u64 0), (.int .u64 0), (.int .u64 0), (.int .u64 0)], 81⟩] [(6, 7), (7, 8)] hn hM rfl (by kernel_rfl) (by kernel_rfl) rfl rfl rfl ?_
  refine E_call 25 rfl rfl rfl rfl (v := (⟨1, 0, 0, 0, 0⟩ : El).v) (g_call (small_E 1 (by decide)).2 rfl rfl rfl Tryd.func8 nm8 bd8) ?_
  refine E_val 26 rfl rfl rfl rfl (v := (.agg #[(.int .u64 0), (.int .u64 0), (.int .u64 0), (.int .u64 0), (.int .u64 0)])) (g_build rfl (by kernel_rfl)) ?_
  refine E_val 27 rfl rfl rfl rfl (v := (.agg #[(.int .u64 1), (.int .u64 0), (.int .u64 0), (.int .u64 0), (.int .u64 0), (.int .u64 0), (.int .u64 0), (.int .u64 0), (.int .u64 0), (.int .u64 0)])) (g_build rfl (by kernel_rfl)) ?_
  refine E_val 28 rfl rfl rfl rfl (v := (.agg #[(.int .u64 c1.l0), (.int .u64 c1.l1), (.int .u64 c1.l2), (.int .u64 c1.l3), (.int .u64 c1.l4)])) (g_loadRow 0 [(.int .u64 c1.l0), (.int .u64 c1.l1), (.int .u64 c1.l2), (.int .u64 c1.l3), (.int .u64 c1.l4)] rfl rfl rfl Tryd.underlying30 rfl sz30 rfl) ?_
  refine E_call 29 rfl rfl rfl rfl (v := (⟨1, 0, 0, 0, 0⟩ : El).v) (g_call (small_E 1 (by decide)).2 rfl rfl rfl Tryd.func8 nm8 bd8) ?_
  refine E_val 30 rfl rfl rfl rfl (v := (.agg #[(.int .u64 c1.l0), (.int .u64 c1.l1), (.int .u64 c1.l2), (.int .u64 c1.l3), (.int .u64 c1.l4), (.int .u64 1), (.int .u64 0), (.int .u64 0), (.int .u64 0), (.int .u64 0)])) (g_build rfl (by kernel_rfl)) ?_
  refine E_skip rfl ?_
  refine E_skip rfl ?_
  refine E_skip rfl ?_
  refine E_nil ?_
  refine ⟨?_, fun β1 w hM => ?_⟩
  · skip
    refine M_val rfl ?_
    refine M_val rfl ?_
    refine M_val rfl ?_
    refine M_val rfl ?_
    refine M_val rfl ?_
    refine M_val rfl ?_
    refine M_alloc rfl rfl (runs_alloc rfl Tryd.zeroValue81 rfl) ?_
    refine M_alloc rfl rfl (runs_alloc rfl Tryd.zeroValue81 rfl) ?_
    refine M_store 6 7 rfl rfl rfl (fun b => runs_store rfl rfl rfl (sets_row sz81 rfl rfl rfl)) ?_
    exact M_nil
  replace hM : Mem _ _ w [⟨(β1 6), #[(.int .u64 1), (.int .u64 0), (.int .u64 0), (.int .u64 0), (.int .u64 0), (.int .u64 0), (.int .u64 0), (.int .u64 0), (.int .u64 0), (.int .u64 0)], 81, true⟩, ⟨(β1 7), #[(.int .u64 0), (.int .u64 0), (.int .u64 0), (.int .u64 0), (.int .u64 0), (.int .u64 0), (.int .u64 0), (.int .u64 0), (.int .u64 0), (.int .u64 0)], 81, true⟩, ⟨b3, #[(.int .u64 c1.l0), (.int .u64 c1.l1), (.int .u64 c1.l2), (.int .u64 c1.l3), (.int .u64 c1.l4)], 30, true⟩, ⟨b2, (arr .u8 32 (fun _ => 0)), 22, true⟩, ⟨b1, (arr .u8 32 (dgF 8 u)), 22, true⟩, ⟨b0, (arr .u8 32 (dgF 8 (clampN x))), 22, true⟩] := hM
  show wpList _ _ _ (_ :: _) (putAll _ ((8, _) :: (7, _) :: _)) _
  refine T_store 1 hn hM rfl rfl rfl rfl rfl rfl rfl (c' := #[(.int .u64 c1.l0), (.int .u64 c1.l1), (.int .u64 c1.l2), (.int .u64 c1.l3), (.int .u64 c1.l4), (.int .u64 1), (.int .u64 0), (.int .u64 0), (.int .u64 0), (.int .u64 0)]) (sets_row sz81 rfl rfl rfl) (fun w hM => ?_)
  replace hM : Mem _ _ w [⟨(β1 6), #[(.int .u64 1), (.int .u64 0), (.int .u64 0), (.int .u64 0), (.int .u64 0), (.int .u64 0), (.int .u64 0), (.int .u64 0), (.int .u64 0), (.int .u64 0)], 81, true⟩, ⟨(β1 7), #[(.int .u64 c1.l0), (.int .u64 c1.l1), (.int .u64 c1.l2), (.int .u64 c1.l3), (.int .u64 c1.l4), (.int .u64 1), (.int .u64 0), (.int .u64 0), (.int .u64 0), (.int .u64 0)], 81, true⟩, ⟨b3, #[(.int .u64 c1.l0), (.int .u64 c1.l1), (.int .u64 c1.l2), (.int .u64 c1.l3), (.int .u64 c1.l4)], 30, true⟩, ⟨b2, (arr .u8 32 (fun _ => 0)), 22, true⟩, ⟨b1, (arr .u8 32 (dgF 8 u)), 22, true⟩, ⟨b0, (arr .u8 32 (dgF 8 (clampN x))), 22, true⟩] := hM
  refine T_nil ?_
  refine wp_seq ?_
  refine wp_region_lit ?_
  refine T_val 9 hn hM rfl rfl rfl (v := (.bool false)) (g_assign rfl rfl) ?_
  refine T_nil ?_
  refine wp_seq ?_
  refine wp_seq ?_
  refine wp_region_lit ?_
  refine T_val 10 hn hM rfl rfl rfl (v := (.int .i64 254)) (g_assign rfl rfl) ?_
  refine T_nil ?_
  refine wp_block ?_
  refine C_loop (fun k a w => ∃ A : Act, A.tmps.size = 64 ∧ A.defers = [] ∧ a = putAll A [(2, (.pointer (some ⟨b0, 0, none⟩))), (3, (.pointer (some ⟨b1, 0, none⟩))), (4, (.pointer (some ⟨b2, 0, none⟩))), (6, (.pointer (some ⟨b3, 0, none⟩))), (7, (.pointer (some ⟨(β1 6), 0, none⟩))), (8, (.pointer (some ⟨(β1 7), 0, none⟩))), (9, (.bool (wasB (clampN x).testBit k))), (10, (.int .i64 (254 - ((k : Nat) : Int))))] ∧ Mem w0 [] w [⟨(β1 6), #[(.int .u64 (f k).ax.l0), (.int .u64 (f k).ax.l1), (.int .u64 (f k).ax.l2), (.int .u64 (f k).ax.l3), (.int .u64 (f k).ax.l4), (.int .u64 (f k).az.l0), (.int .u64 (f k).az.l1), (.int .u64 (f k).az.l2), (.int .u64 (f k).az.l3), (.int .u64 (f k).az.l4)], 81, true⟩, ⟨(β1 7), #[(.int .u64 (f k).bx.l0), (.int .u64 (f k).bx.l1), (.int .u64 (f k).bx.l2), (.int .u64 (f k).bx.l3), (.int .u64 (f k).bx.l4), (.int .u64 (f k).bz.l0), (.int .u64 (f k).bz.l1), (.int .u64 (f k).bz.l2), (.int .u64 (f k).bz.l3), (.int .u64 (f k).bz.l4)], 81, true⟩, ⟨b3, #[(.int .u64 c1.l0), (.int .u64 c1.l1), (.int .u64 c1.l2), (.int .u64 c1.l3), (.int .u64 c1.l4)], 30, true⟩, ⟨b2, (arr .u8 32 (fun _ => 0)), 22, true⟩, ⟨b1, (arr .u8 32 (dgF 8 u)), 22, true⟩, ⟨b0, (arr .u8 32 (dgF 8 (clampN x))), 22, true⟩]) 255 ?_ ?_ ?_
  · skip
    replace hM : Mem w0 [] w [⟨(β1 6), #[(.int .u64 (f 0).ax.l0), (.int .u64 (f 0).ax.l1), (.int .u64 (f 0).ax.l2), (.int .u64 (f 0).ax.l3), (.int .u64 (f 0).ax.l4), (.int .u64 (f 0).az.l0), (.int .u64 (f 0).az.l1), (.int .u64 (f 0).az.l2), (.int .u64 (f 0).az.l3), (.int .u64 (f 0).az.l4)], 81, true⟩, ⟨(β1 7), #[(.int .u64 (f 0).bx.l0), (.int .u64 (f 0).bx.l1), (.int .u64 (f 0).bx.l2), (.int .u64 (f 0).bx.l3), (.int .u64 (f 0).bx.l4), (.int .u64 (f 0).bz.l0), (.int .u64 (f 0).bz.l1), (.int .u64 (f 0).bz.l2), (.int .u64 (f 0).bz.l3), (.int .u64 (f 0).bz.l4)], 81, true⟩, ⟨b3, #[(.int .u64 c1.l0), (.int .u64 c1.l1), (.int .u64 c1.l2), (.int .u64 c1.l3), (.int .u64 c1.l4)], 30, true⟩, ⟨b2, (arr .u8 32 (fun _ => 0)), 22, true⟩, ⟨b1, (arr .u8 32 (dgF 8 u)), 22, true⟩, ⟨b0, (arr .u8 32 (dgF 8 (clampN x))), 22, true⟩] := by rw [hf0]; exact hM
    exact frame_ex [(2, (.pointer (some ⟨b0, 0, none⟩))), (3, (.pointer (some ⟨b1, 0, none⟩))), (4, (.pointer (some ⟨b2, 0, none⟩))), (6, (.pointer (some ⟨b3, 0, none⟩))), (7, (.pointer (some ⟨(β1 6), 0, none⟩))), (8, (.pointer (some ⟨(β1 7), 0, none⟩))), (9, (.bool (wasB (clampN x).testBit 0))), (10, (.int .i64 (254 - ((0 : Nat) : Int))))] hn hdf rfl rfl ⟨rfl, rfl, rfl, rfl, rfl, rfl, rfl, rfl, trivial⟩ hM
  · intro k hk a w hI
    obtain ⟨A, hn, hdf, rfl, hM⟩ := hI
    have hj : (254 : Int) - (k : Int) = ((254 - k : Nat) : Int) := by omega
    rw [hj]
    refine wp_seq ?_
    refine wp_seq ?_
    refine wp_region_lit ?_
    refine T_val 31 hn hM rfl rfl rfl (v := (.int .i64 ((254 - k : Nat) : Int))) (g_move rfl rfl) ?_
    refine T_val 32 hn hM rfl rfl rfl (v := (.bool true)) (g_int rfl rfl rfl rfl (geq_nat _)) ?_
    refine T_nil ?_
    refine C_condT hn rfl rfl ?_
    refine wp_skip ?_
    refine x_next ?_
    refine wp_seq ?_
    refine wp_block ?_
    refine wp_seq ?_
    refine wp_region_lit ?_
    refine T_val 35 hn hM rfl rfl rfl (v := (.int .i64 ((254 - k : Nat) : Int))) (g_move rfl rfl) ?_
    refine T_val 36 hn hM rfl rfl rfl (v := (.int .i64 (((254 - k) / 8 : Nat) : Int))) (g_quo rfl rfl rfl (by decide) (quo_nat (254 - k) 8 (by simp only [bitsOf]; omega))) ?_
    refine T_val 37 hn hM rfl rfl rfl (v := (.pointer (some ⟨b0, (254 - k) / 8, none⟩))) (g_indexAddrN ((254 - k) / 8) ((254 - k) / 8) rfl rfl rfl Tryd.underlying22 Tryd.sizeOf5 (by omega) (by omega)) ?_
    refine T_val 38 hn hM rfl rfl rfl (v := (.int .u8 ((dg 8 (clampN x) ((254 - k) / 8) : Nat) : Int))) (g_loadOne 5 rfl rfl rfl Tryd.underlying5 rfl (arr_get (by omega))) ?_
    refine T_val 39 hn hM rfl rfl rfl (v := (.int .i64 ((254 - k : Nat) : Int))) (g_move rfl rfl) ?_
    refine T_val 40 hn hM rfl rfl rfl (v := (.int .i64 (((254 - k) % 8 : Nat) : Int))) (g_rem rfl rfl rfl (by decide) (rem_nat (254 - k) 8)) ?_
    refine T_val 41 hn hM rfl rfl rfl (v := (.int .u8 ((dg 8 (clampN x) ((254 - k) / 8) >>> ((254 - k) % 8) : Nat) : Int))) (g_shr rfl rfl rfl (shr_nat (k := .u8) _ _ (by simp only [IntKind.bits]; omega))) ?_
    refine T_val 42 hn hM rfl rfl rfl (v := (.int .u8 ((((clampN x).testBit (254 - k)).toNat : Nat) : Int))) (g_int rfl rfl rfl rfl (and_bit (by decide) (by decide))) ?_
    refine T_val 43 hn hM rfl rfl rfl (v := (.bool ((clampN x).testBit (254 - k)))) (g_int rfl rfl rfl rfl (eq_bit _)) ?_
    refine T_val 11 hn hM rfl rfl rfl (v := (.bool ((clampN x).testBit (254 - k)))) (g_assign rfl rfl) ?_
    refine T_nil ?_
    refine wp_seq ?_
    refine wp_region_lit ?_
    refine T_val 44 hn hM rfl rfl rfl (v := (.bool ((clampN x).testBit (254 - k)))) (g_move rfl rfl) ?_
    refine T_val 45 hn hM rfl rfl rfl (v := (.bool (wasB (clampN x).testBit k))) (g_move rfl rfl) ?_
    refine T_val 46 hn hM rfl rfl rfl (v := (.bool (swB (clampN x).testBit k))) (g_neqBool rfl rfl rfl Tryd.underlying4) ?_
    refine T_callW 47 hn hM rfl rfl rfl rfl rfl Tryd.func36 nm36 bd36 (v := (.tuple #[])) (m' := [⟨(β1 6), #[(.int .u64 (if (swB (clampN x).testBit k) then (f k).bx else (f k).ax).l0), (.int .u64 (if (swB (clampN x).testBit k) then (f k).bx else (f k).ax).l1), (.int .u64 (if (swB (clampN x).testBit k) then (f k).bx else (f k).ax).l2), (.int .u64 (if (swB (clampN x).testBit k) then (f k).bx else (f k).ax).l3), (.int .u64 (if (swB (clampN x).testBit k) then (f k).bx else (f k).ax).l4), (.int .u64 (if (swB (clampN x).testBit k) then (f k).bz else (f k).az).l0), (.int .u64 (if (swB (clampN x).testBit k) then (f k).bz else (f k).az).l1), (.int .u64 (if (swB (clampN x).testBit k) then (f k).bz else (f k).az).l2), (.int .u64 (if (swB (clampN x).testBit k) then (f k).bz else (f k).az).l3), (.int .u64 (if (swB (clampN x).testBit k) then (f k).bz else (f k).az).l4)], 81, true⟩, ⟨(β1 7), #[(.int .u64 (if (swB (clampN x).testBit k) then (f k).ax else (f k).bx).l0), (.int .u64 (if (swB (clampN x).testBit k) then (f k).ax else (f k).bx).l1), (.int .u64 (if (swB (clampN x).testBit k) then (f k).ax else (f k).bx).l2), (.int .u64 (if (swB (clampN x).testBit k) then (f k).ax else (f k).bx).l3), (.int .u64 (if (swB (clampN x).testBit k) then (f k).ax else (f k).bx).l4), (.int .u64 (if (swB (clampN x).testBit k) then (f k).az else (f k).bz).l0), (.int .u64 (if (swB (clampN x).testBit k) then (f k).az else (f k).bz).l1), (.int .u64 (if (swB (clampN x).testBit k) then (f k).az else (f k).bz).l2), (.int .u64 (if (swB (clampN x).testBit k) then (f k).az else (f k).bz).l3), (.int .u64 (if (swB (clampN x).testBit k) then (f k).az else (f k).bz).l4)], 81, true⟩, ⟨b3, #[(.int .u64 c1.l0), (.int .u64 c1.l1), (.int .u64 c1.l2), (.int .u64 c1.l3), (.int .u64 c1.l4)], 30, true⟩, ⟨b2, (arr .u8 32 (fun _ => 0)), 22, true⟩, ⟨b1, (arr .u8 32 (dgF 8 u)), 22, true⟩, ⟨b0, (arr .u8 32 (dgF 8 (clampN x))), 22, true⟩]) ((swap_W (swB (clampN x).testBit k) w (hM.get 0 rfl) (hM.get 1 rfl) (hM.ne (i := 0) (j := 1) rfl rfl (by decide))).mono (fun e w' h => ⟨h.1, hM.call2 0 1 rfl rfl (by decide) rfl rfl h.2⟩)) (fun w hM => ?_)
    refine T_nil ?_
    refine wp_seq ?_
    refine wp_region_lit ?_
    refine T_val 48 hn hM rfl rfl rfl (v := (.bool ((clampN x).testBit (254 - k)))) (g_move rfl rfl) ?_
    refine T_val 9 hn hM rfl rfl rfl (v := (.bool ((clampN x).testBit (254 - k)))) (g_assign rfl rfl) ?_
    refine T_nil ?_
    refine wp_region_lit ?_
    refine T_val 49 hn hM rfl rfl rfl (v := (.agg #[(.int .u64 c1.l0), (.int .u64 c1.l1), (.int .u64 c1.l2), (.int .u64 c1.l3), (.int .u64 c1.l4)])) (g_loadRow 2 [(.int .u64 c1.l0), (.int .u64 c1.l1), (.int .u64 c1.l2), (.int .u64 c1.l3), (.int .u64 c1.l4)] rfl rfl rfl Tryd.underlying30 rfl sz30 rfl) ?_
    refine T_callW 50 hn hM rfl rfl rfl rfl rfl Tryd.func37 nm37 bd37 (v := (.tuple #[])) (m' := [⟨(β1 6), #[(.int .u64 (f (k + 1)).ax.l0), (.int .u64 (f (k + 1)).ax.l1), (.int .u64 (f (k + 1)).ax.l2), (.int .u64 (f (k + 1)).ax.l3), (.int .u64 (f (k + 1)).ax.l4), (.int .u64 (f (k + 1)).az.l0), (.int .u64 (f (k + 1)).az.l1), (.int .u64 (f (k + 1)).az.l2), (.int .u64 (f (k + 1)).az.l3), (.int .u64 (f (k + 1)).az.l4)], 81, true⟩, ⟨(β1 7), #[(.int .u64 (f (k + 1)).bx.l0), (.int .u64 (f (k + 1)).bx.l1), (.int .u64 (f (k + 1)).bx.l2), (.int .u64 (f (k + 1)).bx.l3), (.int .u64 (f (k + 1)).bx.l4), (.int .u64 (f (k + 1)).bz.l0), (.int .u64 (f (k + 1)).bz.l1), (.int .u64 (f (k + 1)).bz.l2), (.int .u64 (f (k + 1)).bz.l3), (.int .u64 (f (k + 1)).bz.l4)], 81, true⟩, ⟨b3, #[(.int .u64 c1.l0), (.int .u64 c1.l1), (.int .u64 c1.l2), (.int .u64 c1.l3), (.int .u64 c1.l4)], 30, true⟩, ⟨b2, (arr .u8 32 (fun _ => 0)), 22, true⟩, ⟨b1, (arr .u8 32 (dgF 8 u)), 22, true⟩, ⟨b0, (arr .u8 32 (dgF 8 (clampN x))), 22, true⟩]) ((hstep k w (hM.get 0 rfl) (hM.get 1 rfl) (hM.ne (i := 0) (j := 1) rfl rfl (by decide))).mono (fun e w' h => ⟨h.1, hM.call2 0 1 rfl rfl (by decide) rfl rfl h.2⟩)) (fun w hM => ?_)
    refine T_end ?_
    refine x_norm ?_
    refine x_next ?_
    refine wp_region_lit ?_
    refine T_val 33 hn hM rfl rfl rfl (v := (.int .i64 ((254 - k : Nat) : Int))) (g_move rfl rfl) ?_
    refine T_val 34 hn hM rfl rfl rfl (v := (.int .i64 (254 - ((k + 1 : Nat) : Int)))) (g_int rfl rfl rfl rfl (sub_nat hk)) ?_
    refine T_val 10 hn hM rfl rfl rfl (v := (.int .i64 (254 - ((k + 1 : Nat) : Int)))) (g_assign rfl rfl) ?_
    refine T_nil ?_
    exact frame_ex [(2, (.pointer (some ⟨b0, 0, none⟩))), (3, (.pointer (some ⟨b1, 0, none⟩))), (4, (.pointer (some ⟨b2, 0, none⟩))), (6, (.pointer (some ⟨b3, 0, none⟩))), (7, (.pointer (some ⟨(β1 6), 0, none⟩))), (8, (.pointer (some ⟨(β1 7), 0, none⟩))), (9, (.bool (wasB (clampN x).testBit (k + 1)))), (10, (.int .i64 (254 - (((k + 1) : Nat) : Int))))] hn hdf rfl rfl ⟨rfl, rfl, rfl, rfl, rfl, rfl, rfl, rfl, trivial⟩ hM
  · intro a w hI
    obtain ⟨A, hn, hdf, rfl, hM⟩ := hI
    refine wp_seq ?_
    refine wp_seq ?_
    refine wp_region_lit ?_
    refine T_val 31 hn hM rfl rfl rfl (v := (.int .i64 (254 - ((255 : Nat) : Int)))) (g_move rfl rfl) ?_
    refine T_val 32 hn hM rfl rfl rfl (v := (.bool false)) (g_int rfl rfl rfl rfl rfl) ?_
    refine T_nil ?_
    refine C_condF hn rfl rfl ?_
    refine wp_exit ?_
    refine x_thenE ?_
    refine x_thenE ?_
    refine x_in ?_
    refine x_next ?_
    refine wp_seq ?_
    refine wp_region_lit ?_
    refine T_val 51 hn hM rfl rfl rfl (v := (.bool (wasB (clampN x).testBit 255))) (g_move rfl rfl) ?_
    refine T_callW 52 hn hM rfl rfl rfl rfl rfl Tryd.func36 nm36 bd36 (v := (.tuple #[])) (m' := [⟨(β1 6), #[(.int .u64 (if (wasB (clampN x).testBit 255) then (f 255).bx else (f 255).ax).l0), (.int .u64 (if (wasB (clampN x).testBit 255) then (f 255).bx else (f 255).ax).l1), (.int .u64 (if (wasB (clampN x).testBit 255) then (f 255).bx else (f 255).ax).l2), (.int .u64 (if (wasB (clampN x).testBit 255) then (f 255).bx else (f 255).ax).l3), (.int .u64 (if (wasB (clampN x).testBit 255) then (f 255).bx else (f 255).ax).l4), (.int .u64 (if (wasB (clampN x).testBit 255) then (f 255).bz else (f 255).az).l0), (.int .u64 (if (wasB (clampN x).testBit 255) then (f 255).bz else (f 255).az).l1), (.int .u64 (if (wasB (clampN x).testBit 255) then (f 255).bz else (f 255).az).l2), (.int .u64 (if (wasB (clampN x).testBit 255) then (f 255).bz else (f 255).az).l3), (.int .u64 (if (wasB (clampN x).testBit 255) then (f 255).bz else (f 255).az).l4)], 81, true⟩, ⟨(β1 7), #[(.int .u64 (if (wasB (clampN x).testBit 255) then (f 255).ax else (f 255).bx).l0), (.int .u64 (if (wasB (clampN x).testBit 255) then (f 255).ax else (f 255).bx).l1), (.int .u64 (if (wasB (clampN x).testBit 255) then (f 255).ax else (f 255).bx).l2), (.int .u64 (if (wasB (clampN x).testBit 255) then (f 255).ax else (f 255).bx).l3), (.int .u64 (if (wasB (clampN x).testBit 255) then (f 255).ax else (f 255).bx).l4), (.int .u64 (if (wasB (clampN x).testBit 255) then (f 255).az else (f 255).bz).l0), (.int .u64 (if (wasB (clampN x).testBit 255) then (f 255).az else (f 255).bz).l1), (.int .u64 (if (wasB (clampN x).testBit 255) then (f 255).az else (f 255).bz).l2), (.int .u64 (if (wasB (clampN x).testBit 255) then (f 255).az else (f 255).bz).l3), (.int .u64 (if (wasB (clampN x).testBit 255) then (f 255).az else (f 255).bz).l4)], 81, true⟩, ⟨b3, #[(.int .u64 c1.l0), (.int .u64 c1.l1), (.int .u64 c1.l2), (.int .u64 c1.l3), (.int .u64 c1.l4)], 30, true⟩, ⟨b2, (arr .u8 32 (fun _ => 0)), 22, true⟩, ⟨b1, (arr .u8 32 (dgF 8 u)), 22, true⟩, ⟨b0, (arr .u8 32 (dgF 8 (clampN x))), 22, true⟩]) ((swap_W (wasB (clampN x).testBit 255) w (hM.get 0 rfl) (hM.get 1 rfl) (hM.ne (i := 0) (j := 1) rfl rfl (by decide))).mono (fun e w' h => ⟨h.1, hM.call2 0 1 rfl rfl (by decide) rfl rfl h.2⟩)) (fun w hM => ?_)
    refine T_nil ?_
    refine wp_seq ?_
    refine R_any [.val, .val, .val, .val, .val, .val, .alloc] 7 [⟨6, #[(.int .u64 0), (.int .u64 0), (.int .u64 0), (.int .u64 0), (.int .u64 0)], #[(.int .u64 0), (.int .u64 0), (.int .u64 0), (.int .u64 0), (.int .u64 0)], 30⟩] [(6, 12)] hn hM rfl (by kernel_rfl) (by kernel_rfl) rfl rfl rfl ?_
    refine E_val 53 rfl rfl rfl rfl (v := (.pointer (some ⟨(β1 6), 0, none⟩))) (g_fieldAddr rfl rfl Tryd.underlying81 rfl Tryd.sizeOf30 0 rfl) ?_
    refine E_val 54 rfl rfl rfl rfl (v := (.agg #[(.int .u64 (if (wasB (clampN x).testBit 255) then (f 255).bx else (f 255).ax).l0), (.int .u64 (if (wasB (clampN x).testBit 255) then (f 255).bx else (f 255).ax).l1), (.int .u64 (if (wasB (clampN x).testBit 255) then (f 255).bx else (f 255).ax).l2), (.int .u64 (if (wasB (clampN x).testBit 255) then (f 255).bx else (f 255).ax).l3), (.int .u64 (if (wasB (clampN x).testBit 255) then (f 255).bx else (f 255).ax).l4)])) (g_loadRow 0 [(.int .u64 (if (wasB (clampN x).testBit 255) then (f 255).bx else (f 255).ax).l0), (.int .u64 (if (wasB (clampN x).testBit 255) then (f 255).bx else (f 255).ax).l1), (.int .u64 (if (wasB (clampN x).testBit 255) then (f 255).bx else (f 255).ax).l2), (.int .u64 (if (wasB (clampN x).testBit 255) then (f 255).bx else (f 255).ax).l3), (.int .u64 (if (wasB (clampN x).testBit 255) then (f 255).bx else (f 255).ax).l4)] rfl rfl rfl Tryd.underlying30 rfl sz30 rfl) ?_
    refine E_val 55 rfl rfl rfl rfl (v := (.pointer (some ⟨(β1 6), 5, none⟩))) (g_fieldAddr rfl rfl Tryd.underlying81 rfl Tryd.sizeOf30 5 rfl) ?_
    refine E_val 56 rfl rfl rfl rfl (v := (.agg #[(.int .u64 (if (wasB (clampN x).testBit 255) then (f 255).bz else (f 255).az).l0), (.int .u64 (if (wasB (clampN x).testBit 255) then (f 255).bz else (f 255).az).l1), (.int .u64 (if (wasB (clampN x).testBit 255) then (f 255).bz else (f 255).az).l2), (.int .u64 (if (wasB (clampN x).testBit 255) then (f 255).bz else (f 255).az).l3), (.int .u64 (if (wasB (clampN x).testBit 255) then (f 255).bz else (f 255).az).l4)])) (g_loadRow 0 [(.int .u64 (if (wasB (clampN x).testBit 255) then (f 255).bz else (f 255).az).l0), (.int .u64 (if (wasB (clampN x).testBit 255) then (f 255).bz else (f 255).az).l1), (.int .u64 (if (wasB (clampN x).testBit 255) then (f 255).bz else (f 255).az).l2), (.int .u64 (if (wasB (clampN x).testBit 255) then (f 255).bz else (f 255).az).l3), (.int .u64 (if (wasB (clampN x).testBit 255) then (f 255).bz else (f 255).az).l4)] rfl rfl rfl Tryd.underlying30 rfl sz30 rfl) ?_
    refine E_call 57 rfl rfl rfl rfl (v := c2.v) (g_call pc2 rfl rfl rfl Tryd.func12 nm12 bd12) ?_
    refine E_call 58 rfl rfl rfl rfl (v := c3.v) (g_call pc3 rfl rfl rfl Tryd.func10 nm10 bd10) ?_
    refine E_skip rfl ?_
    refine E_nil ?_
    refine ⟨?_, fun β2 w hM => ?_⟩
    · skip
      refine M_val rfl ?_
      refine M_val rfl ?_
      refine M_val rfl ?_
      refine M_val rfl ?_
      refine M_val rfl ?_
      refine M_val rfl ?_
      refine M_alloc rfl rfl (runs_alloc rfl Tryd.zeroValue30 rfl) ?_
      exact M_nil
    replace hM : Mem _ _ w [⟨(β2 6), #[(.int .u64 0), (.int .u64 0), (.int .u64 0), (.int .u64 0), (.int .u64 0)], 30, true⟩, ⟨(β1 6), #[(.int .u64 (if (wasB (clampN x).testBit 255) then (f 255).bx else (f 255).ax).l0), (.int .u64 (if (wasB (clampN x).testBit 255) then (f 255).bx else (f 255).ax).l1), (.int .u64 (if (wasB (clampN x).testBit 255) then (f 255).bx else (f 255).ax).l2), (.int .u64 (if (wasB (clampN x).testBit 255) then (f 255).bx else (f 255).ax).l3), (.int .u64 (if (wasB (clampN x).testBit 255) then (f 255).bx else (f 255).ax).l4), (.int .u64 (if (wasB (clampN x).testBit 255) then (f 255).bz else (f 255).az).l0), (.int .u64 (if (wasB (clampN x).testBit 255) then (f 255).bz else (f 255).az).l1), (.int .u64 (if (wasB (clampN x).testBit 255) then (f 255).bz else (f 255).az).l2), (.int .u64 (if (wasB (clampN x).testBit 255) then (f 255).bz else (f 255).az).l3), (.int .u64 (if (wasB (clampN x).testBit 255) then (f 255).bz else (f 255).az).l4)], 81, true⟩, ⟨(β1 7), #[(.int .u64 (if (wasB (clampN x).testBit 255) then (f 255).ax else (f 255).bx).l0), (.int .u64 (if (wasB (clampN x).testBit 255) then (f 255).ax else (f 255).bx).l1), (.int .u64 (if (wasB (clampN x).testBit 255) then (f 255).ax else (f 255).bx).l2), (.int .u64 (if (wasB (clampN x).testBit 255) then (f 255).ax else (f 255).bx).l3), (.int .u64 (if (wasB (clampN x).testBit 255) then (f 255).ax else (f 255).bx).l4), (.int .u64 (if (wasB (clampN x).testBit 255) then (f 255).az else (f 255).bz).l0), (.int .u64 (if (wasB (clampN x).testBit 255) then (f 255).az else (f 255).bz).l1), (.int .u64 (if (wasB (clampN x).testBit 255) then (f 255).az else (f 255).bz).l2), (.int .u64 (if (wasB (clampN x).testBit 255) then (f 255).az else (f 255).bz).l3), (.int .u64 (if (wasB (clampN x).testBit 255) then (f 255).az else (f 255).bz).l4)], 81, true⟩, ⟨b3, #[(.int .u64 c1.l0), (.int .u64 c1.l1), (.int .u64 c1.l2), (.int .u64 c1.l3), (.int .u64 c1.l4)], 30, true⟩, ⟨b2, (arr .u8 32 (fun _ => 0)), 22, true⟩, ⟨b1, (arr .u8 32 (dgF 8 u)), 22, true⟩, ⟨b0, (arr .u8 32 (dgF 8 (clampN x))), 22, true⟩] := hM
    show wpList _ _ _ (_ :: _) (putAll _ ((12, _) :: _)) _
    refine T_store 0 hn hM rfl rfl rfl rfl rfl rfl rfl (c' := #[(.int .u64 c3.l0), (.int .u64 c3.l1), (.int .u64 c3.l2), (.int .u64 c3.l3), (.int .u64 c3.l4)]) (sets_row sz30 rfl rfl rfl) (fun w hM => ?_)
    replace hM : Mem _ _ w [⟨(β2 6), #[(.int .u64 c3.l0), (.int .u64 c3.l1), (.int .u64 c3.l2), (.int .u64 c3.l3), (.int .u64 c3.l4)], 30, true⟩, ⟨(β1 6), #[(.int .u64 (if (wasB (clampN x).testBit 255) then (f 255).bx else (f 255).ax).l0), (.int .u64 (if (wasB (clampN x).testBit 255) then (f 255).bx else (f 255).ax).l1), (.int .u64 (if (wasB (clampN x).testBit 255) then (f 255).bx else (f 255).ax).l2), (.int .u64 (if (wasB (clampN x).testBit 255) then (f 255).bx else (f 255).ax).l3), (.int .u64 (if (wasB (clampN x).testBit 255) then (f 255).bx else (f 255).ax).l4), (.int .u64 (if (wasB (clampN x).testBit 255) then (f 255).bz else (f 255).az).l0), (.int .u64 (if (wasB (clampN x).testBit 255) then (f 255).bz else (f 255).az).l1), (.int .u64 (if (wasB (clampN x).testBit 255) then (f 255).bz else (f 255).az).l2), (.int .u64 (if (wasB (clampN x).testBit 255) then (f 255).bz else (f 255).az).l3), (.int .u64 (if (wasB (clampN x).testBit 255) then (f 255).bz else (f 255).az).l4)], 81, true⟩, ⟨(β1 7), #[(.int .u64 (if (wasB (clampN x).testBit 255) then (f 255).ax else (f 255).bx).l0), (.int .u64 (if (wasB (clampN x).testBit 255) then (f 255).ax else (f 255).bx).l1), (.int .u64 (if (wasB (clampN x).testBit 255) then (f 255).ax else (f 255).bx).l2), (.int .u64 (if (wasB (clampN x).testBit 255) then (f 255).ax else (f 255).bx).l3), (.int .u64 (if (wasB (clampN x).testBit 255) then (f 255).ax else (f 255).bx).l4), (.int .u64 (if (wasB (clampN x).testBit 255) then (f 255).az else (f 255).bz).l0), (.int .u64 (if (wasB (clampN x).testBit 255) then (f 255).az else (f 255).bz).l1), (.int .u64 (if (wasB (clampN x).testBit 255) then (f 255).az else (f 255).bz).l2), (.int .u64 (if (wasB (clampN x).testBit 255) then (f 255).az else (f 255).bz).l3), (.int .u64 (if (wasB (clampN x).testBit 255) then (f 255).az else (f 255).bz).l4)], 81, true⟩, ⟨b3, #[(.int .u64 c1.l0), (.int .u64 c1.l1), (.int .u64 c1.l2), (.int .u64 c1.l3), (.int .u64 c1.l4)], 30, true⟩, ⟨b2, (arr .u8 32 (fun _ => 0)), 22, true⟩, ⟨b1, (arr .u8 32 (dgF 8 u)), 22, true⟩, ⟨b0, (arr .u8 32 (dgF 8 (clampN x))), 22, true⟩] := hM
    refine T_nil ?_
    refine wp_seq ?_
    refine R_put [.val, .val, .val, .val, .val, .put] 6 [] [] 5 4 (x0 := ⟨b2, (arr .u8 32 (fun _ => 0)), 22, true⟩) (arr .u8 32 (dgF 8 (((lad (clampN x).testBit (toF ((u % 2 ^ 255 : Nat) : Int)) 255).swap (wasB (clampN x).testBit 255)).ax * (inv ((lad (clampN x).testBit (toF ((u % 2 ^ 255 : Nat) : Int)) 255).swap (wasB (clampN x).testBit 255)).az)).val)) hn hM rfl (by kernel_rfl) (by kernel_rfl) rfl rfl rfl (by decide) rfl rfl rfl ?_
    refine E_val 59 rfl rfl rfl rfl (v := (.agg #[(.int .u64 c3.l0), (.int .u64 c3.l1), (.int .u64 c3.l2), (.int .u64 c3.l3), (.int .u64 c3.l4)])) (g_loadRow 0 [(.int .u64 c3.l0), (.int .u64 c3.l1), (.int .u64 c3.l2), (.int .u64 c3.l3), (.int .u64 c3.l4)] rfl rfl rfl Tryd.underlying30 rfl sz30 rfl) ?_
    refine E_call 60 rfl rfl rfl rfl (v := (.agg (arr .u8 32 (dgF 8 (((lad (clampN x).testBit (toF ((u % 2 ^ 255 : Nat) : Int)) 255).swap (wasB (clampN x).testBit 255)).ax * (inv ((lad (clampN x).testBit (toF ((u % 2 ^ 255 : Nat) : Int)) 255).swap (wasB (clampN x).testBit 255)).az)).val)))) (g_call (bytes_E hc3) rfl rfl rfl Tryd.func13 nm13 bd13) ?_
    refine E_val 61 rfl rfl rfl rfl (v := (.agg #[(.int .u64 c3.l0), (.int .u64 c3.l1), (.int .u64 c3.l2), (.int .u64 c3.l3), (.int .u64 c3.l4)])) (g_loadRow 0 [(.int .u64 c3.l0), (.int .u64 c3.l1), (.int .u64 c3.l2), (.int .u64 c3.l3), (.int .u64 c3.l4)] rfl rfl rfl Tryd.underlying30 rfl sz30 rfl) ?_
    refine E_call 62 rfl rfl rfl rfl (v := (.bool (decide ((((lad (clampN x).testBit (toF ((u % 2 ^ 255 : Nat) : Int)) 255).swap (wasB (clampN x).testBit 255)).ax * (inv ((lad (clampN x).testBit (toF ((u % 2 ^ 255 : Nat) : Int)) 255).swap (wasB (clampN x).testBit 255)).az)) = 0)))) (g_call (zero_E hc3) rfl rfl rfl Tryd.func15 nm15 bd15) ?_
    refine E_val 63 rfl rfl rfl rfl (v := (.bool (!(decide ((((lad (clampN x).testBit (toF ((u % 2 ^ 255 : Nat) : Int)) 255).swap (wasB (clampN x).testBit 255)).ax * (inv ((lad (clampN x).testBit (toF ((u % 2 ^ 255 : Nat) : Int)) 255).swap (wasB (clampN x).testBit 255)).az)) = 0))))) (g_not (decide ((((lad (clampN x).testBit (toF ((u % 2 ^ 255 : Nat) : Int)) 255).swap (wasB (clampN x).testBit 255)).ax * (inv ((lad (clampN x).testBit (toF ((u % 2 ^ 255 : Nat) : Int)) 255).swap (wasB (clampN x).testBit 255)).az)) = 0)) rfl rfl) ?_
    refine E_skip rfl ?_
    refine E_nil ?_
    refine ⟨?_, fun β3 w hM => ?_⟩
    · skip
      refine M_val rfl ?_
      refine M_val rfl ?_
      refine M_val rfl ?_
      refine M_val rfl ?_
      refine M_val rfl ?_
      refine M_put rfl rfl (runs_store rfl rfl rfl (sets_allA sz22 arr_len)) ?_
      exact M_nil
    replace hM : Mem _ _ w [⟨(β2 6), #[(.int .u64 c3.l0), (.int .u64 c3.l1), (.int .u64 c3.l2), (.int .u64 c3.l3), (.int .u64 c3.l4)], 30, true⟩, ⟨(β1 6), #[(.int .u64 (if (wasB (clampN x).testBit 255) then (f 255).bx else (f 255).ax).l0), (.int .u64 (if (wasB (clampN x).testBit 255) then (f 255).bx else (f 255).ax).l1), (.int .u64 (if (wasB (clampN x).testBit 255) then (f 255).bx else (f 255).ax).l2), (.int .u64 (if (wasB (clampN x).testBit 255) then (f 255).bx else (f 255).ax).l3), (.int .u64 (if (wasB (clampN x).testBit 255) then (f 255).bx else (f 255).ax).l4), (.int .u64 (if (wasB (clampN x).testBit 255) then (f 255).bz else (f 255).az).l0), (.int .u64 (if (wasB (clampN x).testBit 255) then (f 255).bz else (f 255).az).l1), (.int .u64 (if (wasB (clampN x).testBit 255) then (f 255).bz else (f 255).az).l2), (.int .u64 (if (wasB (clampN x).testBit 255) then (f 255).bz else (f 255).az).l3), (.int .u64 (if (wasB (clampN x).testBit 255) then (f 255).bz else (f 255).az).l4)], 81, true⟩, ⟨(β1 7), #[(.int .u64 (if (wasB (clampN x).testBit 255) then (f 255).ax else (f 255).bx).l0), (.int .u64 (if (wasB (clampN x).testBit 255) then (f 255).ax else (f 255).bx).l1), (.int .u64 (if (wasB (clampN x).testBit 255) then (f 255).ax else (f 255).bx).l2), (.int .u64 (if (wasB (clampN x).testBit 255) then (f 255).ax else (f 255).bx).l3), (.int .u64 (if (wasB (clampN x).testBit 255) then (f 255).ax else (f 255).bx).l4), (.int .u64 (if (wasB (clampN x).testBit 255) then (f 255).az else (f 255).bz).l0), (.int .u64 (if (wasB (clampN x).testBit 255) then (f 255).az else (f 255).bz).l1), (.int .u64 (if (wasB (clampN x).testBit 255) then (f 255).az else (f 255).bz).l2), (.int .u64 (if (wasB (clampN x).testBit 255) then (f 255).az else (f 255).bz).l3), (.int .u64 (if (wasB (clampN x).testBit 255) then (f 255).az else (f 255).bz).l4)], 81, true⟩, ⟨b3, #[(.int .u64 c1.l0), (.int .u64 c1.l1), (.int .u64 c1.l2), (.int .u64 c1.l3), (.int .u64 c1.l4)], 30, true⟩, ⟨b2, (arr .u8 32 (dgF 8 (((lad (clampN x).testBit (toF ((u % 2 ^ 255 : Nat) : Int)) 255).swap (wasB (clampN x).testBit 255)).ax * (inv ((lad (clampN x).testBit (toF ((u % 2 ^ 255 : Nat) : Int)) 255).swap (wasB (clampN x).testBit 255)).az)).val)), 22, true⟩, ⟨b1, (arr .u8 32 (dgF 8 u)), 22, true⟩, ⟨b0, (arr .u8 32 (dgF 8 (clampN x))), 22, true⟩] := hM
    show wpList _ _ _ (_ :: _) (putAll _ (_)) _
    refine T_val 5 hn hM rfl rfl rfl (v := (.bool (!(decide ((((lad (clampN x).testBit (toF ((u % 2 ^ 255 : Nat) : Int)) 255).swap (wasB (clampN x).testBit 255)).ax * (inv ((lad (clampN x).testBit (toF ((u % 2 ^ 255 : Nat) : Int)) 255).swap (wasB (clampN x).testBit 255)).az)) = 0))))) (g_assign rfl rfl) ?_
    refine T_nil ?_
    refine wp_ret ?_
    refine leave (.inl rfl) hn hdf hM rfl Tryd.results18 (vs := [(.agg (arr .u8 32 (dgF 8 (((lad (clampN x).testBit (toF ((u % 2 ^ 255 : Nat) : Int)) 255).swap (wasB (clampN x).testBit 255)).ax * (inv ((lad (clampN x).testBit (toF ((u % 2 ^ 255 : Nat) : Int)) 255).swap (wasB (clampN x).testBit 255)).az)).val))), (.bool (!(decide ((((lad (clampN x).testBit (toF ((u % 2 ^ 255 : Nat) : Int)) 255).swap (wasB (clampN x).testBit 255)).ax * (inv ((lad (clampN x).testBit (toF ((u % 2 ^ 255 : Nat) : Int)) 255).swap (wasB (clampN x).testBit 255)).az)) = 0))))]) (.row 4 rfl rfl Tryd.underlying22 rfl (by rw [arr_len]; exact sz22) (.tmp 5 rfl .nil)) ?_
    exact ⟨rfl, hM.done⟩

theorem nm18 : (Tryd.f18.name == "runtime.NumGoroutine") = false := by kernel_rfl
theorem bd18 : Tryd.f18.body.isNone = false := by kernel_rfl

set_option maxHeartbeats 1000000 in
set_option maxRecDepth 100000 in
theorem base_E (x : Nat) : Pure 5 #[.agg (arr .u8 32 (dgF 8 x))] (.agg (arr .u8 32 (dgF 8 (multV x 9).val))) := fun w0 => by
  refine enter Tryd.func5 rfl Tryd.ntmps5 (Nat.le_of_ble_eq_true rfl) fun A hn hdf => ?_
  have hM : Mem w0 [] w0 [] := Mem.start w0
  replace hM := hM
  refine wp_seq ?_
  refine wp_region_lit ?_
  refine T_box 1 hn hM rfl rfl rfl rfl rfl (arr .u8 32 (dgF 8 x)) rfl (fun b0 w hM => ?_)
  refine T_alloc 2 hn hM rfl rfl rfl rfl Tryd.zeroValue22 (arr .u8 32 (fun _ => 0)) (by rfl) (fun b1 w hM => ?_)
  refine T_nil ?_
  refine wp_seq ?_
  refine wp_region_lit ?_
  refine T_val 6 hn hM rfl rfl rfl (v := (.agg (arr .u8 32 (dgF 8 x)))) (g_loadAll 1 rfl rfl rfl Tryd.underlying22 rfl (by rw [arr_len]; exact sz22)) ?_
  refine T_val 7 hn hM rfl rfl rfl (v := (.agg (arr .u8 32 (dgF 8 9)))) (g_build rfl (by kernel_rfl)) ?_
  refine T_call 8 hn hM rfl rfl rfl (v := (.tuple #[(.agg (arr .u8 32 (dgF 8 (multV x 9).val))), (.bool (!decide (multV x 9 = 0)))])) (g_call (mult_E x 9) rfl rfl rfl Tryd.func18 nm18 bd18) (fun w hM => ?_)
  refine T_val 5 hn hM rfl rfl rfl (v := (.tuple #[(.agg (arr .u8 32 (dgF 8 (multV x 9).val))), (.bool (!decide (multV x 9 = 0)))])) (g_move rfl rfl) ?_
  refine T_val 9 hn hM rfl rfl rfl (v := (.agg (arr .u8 32 (dgF 8 (multV x 9).val)))) (g_extract rfl rfl rfl) ?_
  refine T_val 10 hn hM rfl rfl rfl (v := (.bool (!decide (multV x 9 = 0)))) (g_extract rfl rfl rfl) ?_
  refine T_alloc 3 hn hM rfl rfl rfl rfl Tryd.zeroValue22 (arr .u8 32 (fun _ => 0)) (by rfl) (fun b2 w hM => ?_)
  refine T_store 0 hn hM rfl rfl rfl rfl rfl rfl rfl (c' := (arr .u8 32 (dgF 8 (multV x 9).val))) (sets_allA sz22 arr_len) (fun w hM => ?_)
  replace hM : Mem _ _ w [⟨b2, (arr .u8 32 (dgF 8 (multV x 9).val)), 22, true⟩, ⟨b1, (arr .u8 32 (fun _ => 0)), 22, true⟩, ⟨b0, (arr .u8 32 (dgF 8 x)), 22, true⟩] := hM
  refine T_val 4 hn hM rfl rfl rfl (v := (.bool (!decide (multV x 9 = 0)))) (g_assign rfl rfl) ?_
  refine T_nil ?_
  refine wp_seq ?_
  refine wp_region_lit ?_
  refine T_val 11 hn hM rfl rfl rfl (v := (.agg (arr .u8 32 (dgF 8 (multV x 9).val)))) (g_loadAll 0 rfl rfl rfl Tryd.underlying22 rfl (by rw [arr_len]; exact sz22)) ?_
  refine T_store 1 hn hM rfl rfl rfl rfl rfl rfl rfl (c' := (arr .u8 32 (dgF 8 (multV x 9).val))) (sets_allA sz22 arr_len) (fun w hM => ?_)
  replace hM : Mem _ _ w [⟨b2, (arr .u8 32 (dgF 8 (multV x 9).val)), 22, true⟩, ⟨b1, (arr .u8 32 (dgF 8 (multV x 9).val)), 22, true⟩, ⟨b0, (arr .u8 32 (dgF 8 x)), 22, true⟩] := hM
  refine T_nil ?_
  refine wp_ret ?_
  refine leave (.inl rfl) hn hdf hM rfl Tryd.results5 (vs := [(.agg (arr .u8 32 (dgF 8 (multV x 9).val)))]) (.row 1 rfl rfl Tryd.underlying22 rfl (by rw [arr_len]; exact sz22) .nil) ?_
  exact ⟨rfl, hM.done⟩

end Go.Proofs.YtbonnnakebfniaaDoor
