/- scalar.Bits; edsign: a number times a point. -/
import Derived.Test.YtbonnnakebfniaaDoorEd
namespace Go.Proofs.YtbonnnakebfniaaDoor
open Go Go.RowKit Num Mx


theorem sz4 : (Tryd.prog.info? 4).map (·.size) = some 1 := by kernel_rfl

theorem info4 : Tryd.prog.info? 4 = some Tryd.t4 := by kernel_rfl

set_option maxHeartbeats 1000000 in
set_option maxRecDepth 100000 in
theorem bits_E (x : Nat) (hx : x < 2 ^ 256) (w0 : World) : Calls Tryd.prog 42 #[.agg (arr .u8 32 (dgF 8 x))] w0 fun e w' => ∃ b, e = .returned (.slice (some ⟨b, 0, none⟩) 256 256) ∧ w0.heap.size ≤ b ∧ w'.heap[b]? = some (.cells (arrB 256 x.testBit) 4 (0, 0)) ∧ Below w0.heap.size w0 w' := by
  refine enter Tryd.func42 rfl Tryd.ntmps42 (Nat.le_of_ble_eq_true rfl) fun A hn hdf => ?_
  have hM : Mem w0 [] w0 [] := Mem.start w0
  replace hM := hM
  refine wp_seq ?_
  refine wp_region_lit ?_
  refine T_box 1 hn hM rfl rfl rfl rfl rfl (arr .u8 32 (dgF 8 x)) rfl (fun b0 w hM => ?_)
  refine T_val 2 hn hM rfl rfl rfl (v := (.slice none 0 0)) (g_assign rfl rfl) ?_
  refine T_nil ?_
  refine wp_seq ?_
  refine wp_region_lit ?_
  refine T_makeSlice (c := 256) 5 hn hM rfl rfl rfl rfl rfl rfl Tryd.underlying89 info4 rfl (by decide) (by decide) (arrB 256 fun _ => false) (madeB 256) (fun b1 w hM => ?_)
  refine T_val 3 hn hM rfl rfl rfl (v := (.slice (some ⟨b1, 0, none⟩) 256 256)) (g_assign rfl rfl) ?_
  refine T_nil ?_
  refine wp_seq ?_
  refine wp_seq ?_
  refine wp_region_lit ?_
  refine T_val 6 hn hM rfl rfl rfl (v := (.slice (some ⟨b1, 0, none⟩) 256 256)) (g_move rfl rfl) ?_
  refine T_val 7 hn hM rfl rfl rfl (v := (.int .i64 256)) (g_lenSl rfl rfl Tryd.underlying89) ?_
  refine T_val 8 hn hM rfl rfl rfl (v := (.int .i64 0)) (g_move rfl rfl) ?_
  refine T_nil ?_
  refine wp_block ?_
  refine C_loop (fun k a w => ∃ A : Act, A.tmps.size = 25 ∧ A.defers = [] ∧ a = putAll A [(1, (.pointer (some ⟨b0, 0, none⟩))), (3, (.slice (some ⟨b1, 0, none⟩) 256 256)), (7, (.int .i64 256)), (8, (.int .i64 ((k : Nat) : Int)))] ∧ Mem w0 [] w [⟨b1, (arrB 256 (fun j => decide (j < k) && x.testBit j)), 4, true⟩, ⟨b0, (arr .u8 32 (dgF 8 x)), 22, true⟩]) 256 ?_ ?_ ?_
  · skip
    replace hM : Mem w0 [] w [⟨b1, (arrB 256 (fun j => decide (j < 0) && x.testBit j)), 4, true⟩, ⟨b0, (arr .u8 32 (dgF 8 x)), 22, true⟩] := by rw [show (fun j => decide (j < 0) && x.testBit j) = (fun _ => false) from funext fun j => by simp]; exact hM
    exact frame_ex [(1, (.pointer (some ⟨b0, 0, none⟩))), (3, (.slice (some ⟨b1, 0, none⟩) 256 256)), (7, (.int .i64 256)), (8, (.int .i64 ((0 : Nat) : Int)))] hn hdf rfl rfl ⟨rfl, rfl, rfl, rfl, trivial⟩ hM
  · intro k hk a w hI
    obtain ⟨A, hn, hdf, rfl, hM⟩ := hI
    refine wp_seq ?_
    refine wp_region_lit ?_
    refine T_val 9 hn hM rfl rfl rfl (v := (.bool true)) (g_int rfl rfl rfl rfl (lss_nat k 256 true (decide_eq_true (by omega)))) ?_
    refine T_nil ?_
    refine wp_seq ?_
    refine C_condT hn rfl rfl ?_
    refine wp_skip ?_
    refine x_next ?_
    refine wp_seq ?_
    refine wp_block ?_
    refine wp_seq ?_
    refine wp_region_lit ?_
    refine T_val 10 hn hM rfl rfl rfl (v := (.int .i64 ((k : Nat) : Int))) (g_move rfl rfl) ?_
    refine T_val 4 hn hM rfl rfl rfl (v := (.int .i64 ((k : Nat) : Int))) (g_assign rfl rfl) ?_
    refine T_nil ?_
    refine wp_region_lit ?_
    refine T_val 11 hn hM rfl rfl rfl (v := (.slice (some ⟨b1, 0, none⟩) 256 256)) (g_move rfl rfl) ?_
    refine T_val 12 hn hM rfl rfl rfl (v := (.int .i64 ((k : Nat) : Int))) (g_move rfl rfl) ?_
    refine T_val 13 hn hM rfl rfl rfl (v := (.int .i64 ((k : Nat) : Int))) (g_move rfl rfl) ?_
    refine T_val 14 hn hM rfl rfl rfl (v := (.int .i64 ((k / 8 : Nat) : Int))) (g_quo rfl rfl rfl (by decide) (quo_nat k 8 (by simp only [bitsOf]; omega))) ?_
    refine T_val 15 hn hM rfl rfl rfl (v := (.pointer (some ⟨b0, k / 8, none⟩))) (g_indexAddrN (k / 8) (k / 8) rfl rfl rfl Tryd.underlying22 Tryd.sizeOf5 (by omega) (by omega)) ?_
    refine T_val 16 hn hM rfl rfl rfl (v := (.int .u8 ((dg 8 x (k / 8) : Nat) : Int))) (g_loadOne 1 rfl rfl rfl Tryd.underlying5 rfl (arr_get (by omega))) ?_
    refine T_val 17 hn hM rfl rfl rfl (v := (.int .i64 ((k : Nat) : Int))) (g_move rfl rfl) ?_
    refine T_val 18 hn hM rfl rfl rfl (v := (.int .i64 ((k % 8 : Nat) : Int))) (g_rem rfl rfl rfl (by decide) (rem_nat k 8)) ?_
    refine T_val 19 hn hM rfl rfl rfl (v := (.int .u8 ((dg 8 x (k / 8) >>> (k % 8) : Nat) : Int))) (g_shr rfl rfl rfl (shr_nat (k := .u8) _ _ (by simp only [IntKind.bits]; omega))) ?_
    refine T_val 20 hn hM rfl rfl rfl (v := (.int .u8 (((x.testBit k).toNat : Nat) : Int))) (g_int rfl rfl rfl rfl (and_bit (by decide) (by decide))) ?_
    refine T_val 21 hn hM rfl rfl rfl (v := (.bool (x.testBit k))) (g_int rfl rfl rfl rfl (eq_bit _)) ?_
    refine T_val 22 hn hM rfl rfl rfl (v := (.pointer (some ⟨b1, k, none⟩))) (g_indexSl k k rfl rfl rfl Tryd.underlying89 Tryd.sizeOf4 (by omega) (by omega)) ?_
    refine T_store 0 hn hM rfl rfl rfl rfl rfl rfl rfl (c' := (arrB 256 (fun j => decide (j < (k + 1)) && x.testBit j))) (sets_arrB sz4 (by omega) (fun i _ => upd_bits _ k i)) (fun w hM => ?_)
    replace hM : Mem _ _ w [⟨b1, (arrB 256 (fun j => decide (j < (k + 1)) && x.testBit j)), 4, true⟩, ⟨b0, (arr .u8 32 (dgF 8 x)), 22, true⟩] := hM
    refine T_end ?_
    refine x_norm ?_
    refine x_next ?_
    refine wp_region_lit ?_
    refine T_val 23 hn hM rfl rfl rfl (v := (.int .i64 ((k + 1 : Nat) : Int))) (g_int rfl rfl rfl rfl (add_nat k 1 (by simp only [bitsOf]; omega))) ?_
    refine T_val 8 hn hM rfl rfl rfl (v := (.int .i64 ((k + 1 : Nat) : Int))) (g_move rfl rfl) ?_
    refine T_nil ?_
    exact frame_ex [(1, (.pointer (some ⟨b0, 0, none⟩))), (3, (.slice (some ⟨b1, 0, none⟩) 256 256)), (7, (.int .i64 256)), (8, (.int .i64 (((k + 1) : Nat) : Int)))] hn hdf rfl rfl ⟨rfl, rfl, rfl, rfl, trivial⟩ hM
  · intro a w hI
    obtain ⟨A, hn, hdf, rfl, hM⟩ := hI
    refine wp_seq ?_
    refine wp_region_lit ?_
    refine T_val 9 hn hM rfl rfl rfl (v := (.bool false)) (g_int rfl rfl rfl rfl (lss_nat 256 256 false (decide_eq_false (by omega)))) ?_
    refine T_nil ?_
    refine wp_seq ?_
    refine C_condF hn rfl rfl ?_
    refine wp_exit ?_
    refine x_thenE ?_
    refine x_thenE ?_
    refine x_in ?_
    refine x_next ?_
    refine wp_seq ?_
    refine wp_region_lit ?_
    refine T_val 24 hn hM rfl rfl rfl (v := (.slice (some ⟨b1, 0, none⟩) 256 256)) (g_move rfl rfl) ?_
    refine T_val 2 hn hM rfl rfl rfl (v := (.slice (some ⟨b1, 0, none⟩) 256 256)) (g_assign rfl rfl) ?_
    refine T_nil ?_
    refine wp_ret ?_
    refine leave (.inl rfl) hn hdf hM rfl Tryd.results42 (vs := [(.slice (some ⟨b1, 0, none⟩) 256 256)]) (.tmp 2 rfl .nil) ?_
    exact ⟨_, rfl, by have h := hM.fresh 0 rfl; rw [show (fun j => decide (j < 256) && x.testBit j) = x.testBit from funext fun j => by by_cases h : j < 256 <;> simp [h]; exact (Nat.testBit_lt_two_pow (Nat.lt_of_lt_of_le hx (Nat.pow_le_pow_right (n := 2) (by decide) (show 256 ≤ j by omega))))] at h; exact h⟩

theorem nm41 : (Tryd.f41.name == "runtime.NumGoroutine") = false := by kernel_rfl
theorem bd41 : Tryd.f41.body.isNone = false := by kernel_rfl
theorem nm42 : (Tryd.f42.name == "runtime.NumGoroutine") = false := by kernel_rfl
theorem bd42 : Tryd.f42.body.isNone = false := by kernel_rfl
theorem nm43 : (Tryd.f43.name == "runtime.NumGoroutine") = false := by kernel_rfl
theorem bd43 : Tryd.f43.body.isNone = false := by kernel_rfl

set_option maxHeartbeats 1000000 in
set_option maxRecDepth 100000 in
theorem multP_E (x : Nat) (hx : x < 2 ^ 256) {c : Cv} {fe : F} (he : IsL c.e fe) {p : P4} {fp : E4} (hp : IsP p fp) : ∃ g : P4, IsP g (mulF fe x.testBit fp 256) ∧ ∀ (w0 : World) (bc : Nat), w0.heap[bc]? = some (.cells c.c 55 (0, 0)) → Calls Tryd.prog 20 #[.pointer (some ⟨bc, 0, none⟩), .agg (arr .u8 32 (dgF 8 x)), p.v] w0 fun e w' => e = .returned g.v ∧ Below w0.heap.size w0 w' := by
  obtain ⟨f, d, hf0, hfi, hr⟩ := mul_P x.testBit he hp
  refine ⟨f 256, hfi 256, fun w0 bc hcv => ?_⟩
  refine enter Tryd.func20 rfl Tryd.ntmps20 (Nat.le_of_ble_eq_true rfl) fun A hn hdf => ?_
  have hM : Mem w0 [] w0 [⟨bc, #[(.int .u64 c.d.l0), (.int .u64 c.d.l1), (.int .u64 c.d.l2), (.int .u64 c.d.l3), (.int .u64 c.d.l4), (.int .u64 c.e.l0), (.int .u64 c.e.l1), (.int .u64 c.e.l2), (.int .u64 c.e.l3), (.int .u64 c.e.l4), (.int .u64 c.x.l0), (.int .u64 c.x.l1), (.int .u64 c.x.l2), (.int .u64 c.x.l3), (.int .u64 c.x.l4), (.int .u64 c.y.l0), (.int .u64 c.y.l1), (.int .u64 c.y.l2), (.int .u64 c.y.l3), (.int .u64 c.y.l4), (.int .u64 c.z.l0), (.int .u64 c.z.l1), (.int .u64 c.z.l2), (.int .u64 c.z.l3), (.int .u64 c.z.l4), (.int .u64 c.t.l0), (.int .u64 c.t.l1), (.int .u64 c.t.l2), (.int .u64 c.t.l3), (.int .u64 c.t.l4)], 55, false⟩] := Mem.read1 w0 hcv
  replace hM := hM
  refine wp_seq ?_
  refine wp_region_lit ?_
  refine T_box 4 hn hM rfl rfl rfl rfl rfl (arr .u8 32 (dgF 8 x)) rfl (fun b0 w hM => ?_)
  refine T_box 5 hn hM rfl rfl rfl rfl rfl #[(.int .u64 p.x.l0), (.int .u64 p.x.l1), (.int .u64 p.x.l2), (.int .u64 p.x.l3), (.int .u64 p.x.l4), (.int .u64 p.y.l0), (.int .u64 p.y.l1), (.int .u64 p.y.l2), (.int .u64 p.y.l3), (.int .u64 p.y.l4), (.int .u64 p.z.l0), (.int .u64 p.z.l1), (.int .u64 p.z.l2), (.int .u64 p.z.l3), (.int .u64 p.z.l4), (.int .u64 p.t.l0), (.int .u64 p.t.l1), (.int .u64 p.t.l2), (.int .u64 p.t.l3), (.int .u64 p.t.l4)] rfl (fun b1 w hM => ?_)
  refine T_alloc 6 hn hM rfl rfl rfl rfl Tryd.zeroValue49 #[(.int .u64 0), (.int .u64 0), (.int .u64 0), (.int .u64 0), (.int .u64 0), (.int .u64 0), (.int .u64 0), (.int .u64 0), (.int .u64 0), (.int .u64 0), (.int .u64 0), (.int .u64 0), (.int .u64 0), (.int .u64 0), (.int .u64 0), (.int .u64 0), (.int .u64 0), (.int .u64 0), (.int .u64 0), (.int .u64 0)] rfl (fun b2 w hM => ?_)
  refine T_nil ?_
  refine wp_seq ?_
  refine wp_region_lit ?_
  refine T_call 10 hn hM rfl rfl rfl (v := (.agg #[(.int .u64 0), (.int .u64 0), (.int .u64 0), (.int .u64 0), (.int .u64 0), (.int .u64 1), (.int .u64 0), (.int .u64 0), (.int .u64 0), (.int .u64 0), (.int .u64 1), (.int .u64 0), (.int .u64 0), (.int .u64 0), (.int .u64 0), (.int .u64 0), (.int .u64 0), (.int .u64 0), (.int .u64 0), (.int .u64 0)])) (g_call zeroP_E rfl rfl rfl Tryd.func41 nm41 bd41) (fun w hM => ?_)
  refine T_alloc 7 hn hM rfl rfl rfl rfl Tryd.zeroValue49 #[(.int .u64 0), (.int .u64 0), (.int .u64 0), (.int .u64 0), (.int .u64 0), (.int .u64 0), (.int .u64 0), (.int .u64 0), (.int .u64 0), (.int .u64 0), (.int .u64 0), (.int .u64 0), (.int .u64 0), (.int .u64 0), (.int .u64 0), (.int .u64 0), (.int .u64 0), (.int .u64 0), (.int .u64 0), (.int .u64 0)] rfl (fun b3 w hM => ?_)
  refine T_store 0 hn hM rfl rfl rfl rfl rfl rfl rfl (c' := #[(.int .u64 0), (.int .u64 0), (.int .u64 0), (.int .u64 0), (.int .u64 0), (.int .u64 1), (.int .u64 0), (.int .u64 0), (.int .u64 0), (.int .u64 0), (.int .u64 1), (.int .u64 0), (.int .u64 0), (.int .u64 0), (.int .u64 0), (.int .u64 0), (.int .u64 0), (.int .u64 0), (.int .u64 0), (.int .u64 0)]) (sets_row sz49 rfl rfl rfl) (fun w hM => ?_)
  replace hM : Mem _ _ w [⟨b3, #[(.int .u64 0), (.int .u64 0), (.int .u64 0), (.int .u64 0), (.int .u64 0), (.int .u64 1), (.int .u64 0), (.int .u64 0), (.int .u64 0), (.int .u64 0), (.int .u64 1), (.int .u64 0), (.int .u64 0), (.int .u64 0), (.int .u64 0), (.int .u64 0), (.int .u64 0), (.int .u64 0), (.int .u64 0), (.int .u64 0)], 49, true⟩, ⟨b2, #[(.int .u64 0), (.int .u64 0), (.int .u64 0), (.int .u64 0), (.int .u64 0), (.int .u64 0), (.int .u64 0), (.int .u64 0), (.int .u64 0), (.int .u64 0), (.int .u64 0), (.int .u64 0), (.int .u64 0), (.int .u64 0), (.int .u64 0), (.int .u64 0), (.int .u64 0), (.int .u64 0), (.int .u64 0), (.int .u64 0)], 49, true⟩, ⟨b1, #[(.int .u64 p.x.l0), (.int .u64 p.x.l1), (.int .u64 p.x.l2), (.int .u64 p.x.l3), (.int .u64 p.x.l4), (.int .u64 p.y.l0), (.int .u64 p.y.l1), (.int .u64 p.y.l2), (.int .u64 p.y.l3), (.int .u64 p.y.l4), (.int .u64 p.z.l0), (.int .u64 p.z.l1), (.int .u64 p.z.l2), (.int .u64 p.z.l3), (.int .u64 p.z.l4), (.int .u64 p.t.l0), (.int .u64 p.t.l1), (.int .u64 p.t.l2), (.int .u64 p.t.l3), (.int .u64 p.t.l4)], 49, true⟩, ⟨b0, (arr .u8 32 (dgF 8 x)), 22, true⟩, ⟨bc, #[(.int .u64 c.d.l0), (.int .u64 c.d.l1), (.int .u64 c.d.l2), (.int .u64 c.d.l3), (.int .u64 c.d.l4), (.int .u64 c.e.l0), (.int .u64 c.e.l1), (.int .u64 c.e.l2), (.int .u64 c.e.l3), (.int .u64 c.e.l4), (.int .u64 c.x.l0), (.int .u64 c.x.l1), (.int .u64 c.x.l2), (.int .u64 c.x.l3), (.int .u64 c.x.l4), (.int .u64 c.y.l0), (.int .u64 c.y.l1), (.int .u64 c.y.l2), (.int .u64 c.y.l3), (.int .u64 c.y.l4), (.int .u64 c.z.l0), (.int .u64 c.z.l1), (.int .u64 c.z.l2), (.int .u64 c.z.l3), (.int .u64 c.z.l4), (.int .u64 c.t.l0), (.int .u64 c.t.l1), (.int .u64 c.t.l2), (.int .u64 c.t.l3), (.int .u64 c.t.l4)], 55, false⟩] := hM
  refine T_nil ?_
  refine wp_seq ?_
  refine wp_region_lit ?_
  refine T_val 11 hn hM rfl rfl rfl (v := (.agg (arr .u8 32 (dgF 8 x)))) (g_loadAll 3 rfl rfl rfl Tryd.underlying22 rfl (by rw [arr_len]; exact sz22)) ?_
  refine T_callV (fun b => .slice (some ⟨b, 0, none⟩) 256 256) 12 hn hM rfl rfl rfl rfl rfl Tryd.func42 nm42 bd42 (bits_E x hx w) (fun b4 w hM => ?_)
  refine T_val 8 hn hM rfl rfl rfl (v := (.slice (some ⟨b4, 0, none⟩) 256 256)) (g_assign rfl rfl) ?_
  refine T_nil ?_
  refine wp_seq ?_
  refine wp_seq ?_
  refine wp_region_lit ?_
  refine T_val 13 hn hM rfl rfl rfl (v := (.slice (some ⟨b4, 0, none⟩) 256 256)) (g_move rfl rfl) ?_
  refine T_val 14 hn hM rfl rfl rfl (v := (.int .i64 256)) (g_lenSl rfl rfl Tryd.underlying89) ?_
  refine T_val 15 hn hM rfl rfl rfl (v := (.int .i64 255)) (g_int rfl rfl rfl rfl rfl) ?_
  refine T_val 9 hn hM rfl rfl rfl (v := (.int .i64 255)) (g_assign rfl rfl) ?_
  refine T_nil ?_
  refine wp_block ?_
  refine C_loop (fun k a w => ∃ A : Act, A.tmps.size = 33 ∧ A.defers = [] ∧ a = putAll A [(0, (.pointer (some ⟨bc, 0, none⟩))), (5, (.pointer (some ⟨b1, 0, none⟩))), (6, (.pointer (some ⟨b2, 0, none⟩))), (7, (.pointer (some ⟨b3, 0, none⟩))), (8, (.slice (some ⟨b4, 0, none⟩) 256 256)), (9, (.int .i64 (255 - ((k : Nat) : Int))))] ∧ Mem w0 [] w [⟨b4, (arrB 256 x.testBit), 4, true⟩, ⟨b3, #[(.int .u64 (f k).x.l0), (.int .u64 (f k).x.l1), (.int .u64 (f k).x.l2), (.int .u64 (f k).x.l3), (.int .u64 (f k).x.l4), (.int .u64 (f k).y.l0), (.int .u64 (f k).y.l1), (.int .u64 (f k).y.l2), (.int .u64 (f k).y.l3), (.int .u64 (f k).y.l4), (.int .u64 (f k).z.l0), (.int .u64 (f k).z.l1), (.int .u64 (f k).z.l2), (.int .u64 (f k).z.l3), (.int .u64 (f k).z.l4), (.int .u64 (f k).t.l0), (.int .u64 (f k).t.l1), (.int .u64 (f k).t.l2), (.int .u64 (f k).t.l3), (.int .u64 (f k).t.l4)], 49, true⟩, ⟨b2, #[(.int .u64 0), (.int .u64 0), (.int .u64 0), (.int .u64 0), (.int .u64 0), (.int .u64 0), (.int .u64 0), (.int .u64 0), (.int .u64 0), (.int .u64 0), (.int .u64 0), (.int .u64 0), (.int .u64 0), (.int .u64 0), (.int .u64 0), (.int .u64 0), (.int .u64 0), (.int .u64 0), (.int .u64 0), (.int .u64 0)], 49, true⟩, ⟨b1, #[(.int .u64 p.x.l0), (.int .u64 p.x.l1), (.int .u64 p.x.l2), (.int .u64 p.x.l3), (.int .u64 p.x.l4), (.int .u64 p.y.l0), (.int .u64 p.y.l1), (.int .u64 p.y.l2), (.int .u64 p.y.l3), (.int .u64 p.y.l4), (.int .u64 p.z.l0), (.int .u64 p.z.l1), (.int .u64 p.z.l2), (.int .u64 p.z.l3), (.int .u64 p.z.l4), (.int .u64 p.t.l0), (.int .u64 p.t.l1), (.int .u64 p.t.l2), (.int .u64 p.t.l3), (.int .u64 p.t.l4)], 49, true⟩, ⟨b0, (arr .u8 32 (dgF 8 x)), 22, true⟩, ⟨bc, #[(.int .u64 c.d.l0), (.int .u64 c.d.l1), (.int .u64 c.d.l2), (.int .u64 c.d.l3), (.int .u64 c.d.l4), (.int .u64 c.e.l0), (.int .u64 c.e.l1), (.int .u64 c.e.l2), (.int .u64 c.e.l3), (.int .u64 c.e.l4), (.int .u64 c.x.l0), (.int .u64 c.x.l1), (.int .u64 c.x.l2), (.int .u64 c.x.l3), (.int .u64 c.x.l4), (.int .u64 c.y.l0), (.int .u64 c.y.l1), (.int .u64 c.y.l2), (.int .u64 c.y.l3), (.int .u64 c.y.l4), (.int .u64 c.z.l0), (.int .u64 c.z.l1), (.int .u64 c.z.l2), (.int .u64 c.z.l3), (.int .u64 c.z.l4), (.int .u64 c.t.l0), (.int .u64 c.t.l1), (.int .u64 c.t.l2), (.int .u64 c.t.l3), (.int .u64 c.t.l4)], 55, false⟩]) 256 ?_ ?_ ?_
  · skip
    replace hM : Mem w0 [] w [⟨b4, (arrB 256 x.testBit), 4, true⟩, ⟨b3, #[(.int .u64 (f 0).x.l0), (.int .u64 (f 0).x.l1), (.int .u64 (f 0).x.l2), (.int .u64 (f 0).x.l3), (.int .u64 (f 0).x.l4), (.int .u64 (f 0).y.l0), (.int .u64 (f 0).y.l1), (.int .u64 (f 0).y.l2), (.int .u64 (f 0).y.l3), (.int .u64 (f 0).y.l4), (.int .u64 (f 0).z.l0), (.int .u64 (f 0).z.l1), (.int .u64 (f 0).z.l2), (.int .u64 (f 0).z.l3), (.int .u64 (f 0).z.l4), (.int .u64 (f 0).t.l0), (.int .u64 (f 0).t.l1), (.int .u64 (f 0).t.l2), (.int .u64 (f 0).t.l3), (.int .u64 (f 0).t.l4)], 49, true⟩, ⟨b2, #[(.int .u64 0), (.int .u64 0), (.int .u64 0), (.int .u64 0), (.int .u64 0), (.int .u64 0), (.int .u64 0), (.int .u64 0), (.int .u64 0), (.int .u64 0), (.int .u64 0), (.int .u64 0), (.int .u64 0), (.int .u64 0), (.int .u64 0), (.int .u64 0), (.int .u64 0), (.int .u64 0), (.int .u64 0), (.int .u64 0)], 49, true⟩, ⟨b1, #[(.int .u64 p.x.l0), (.int .u64 p.x.l1), (.int .u64 p.x.l2), (.int .u64 p.x.l3), (.int .u64 p.x.l4), (.int .u64 p.y.l0), (.int .u64 p.y.l1), (.int .u64 p.y.l2), (.int .u64 p.y.l3), (.int .u64 p.y.l4), (.int .u64 p.z.l0), (.int .u64 p.z.l1), (.int .u64 p.z.l2), (.int .u64 p.z.l3), (.int .u64 p.z.l4), (.int .u64 p.t.l0), (.int .u64 p.t.l1), (.int .u64 p.t.l2), (.int .u64 p.t.l3), (.int .u64 p.t.l4)], 49, true⟩, ⟨b0, (arr .u8 32 (dgF 8 x)), 22, true⟩, ⟨bc, #[(.int .u64 c.d.l0), (.int .u64 c.d.l1), (.int .u64 c.d.l2), (.int .u64 c.d.l3), (.int .u64 c.d.l4), (.int .u64 c.e.l0), (.int .u64 c.e.l1), (.int .u64 c.e.l2), (.int .u64 c.e.l3), (.int .u64 c.e.l4), (.int .u64 c.x.l0), (.int .u64 c.x.l1), (.int .u64 c.x.l2), (.int .u64 c.x.l3), (.int .u64 c.x.l4), (.int .u64 c.y.l0), (.int .u64 c.y.l1), (.int .u64 c.y.l2), (.int .u64 c.y.l3), (.int .u64 c.y.l4), (.int .u64 c.z.l0), (.int .u64 c.z.l1), (.int .u64 c.z.l2), (.int .u64 c.z.l3), (.int .u64 c.z.l4), (.int .u64 c.t.l0), (.int .u64 c.t.l1), (.int .u64 c.t.l2), (.int .u64 c.t.l3), (.int .u64 c.t.l4)], 55, false⟩] := by rw [hf0]; exact hM
    exact frame_ex [(0, (.pointer (some ⟨bc, 0, none⟩))), (5, (.pointer (some ⟨b1, 0, none⟩))), (6, (.pointer (some ⟨b2, 0, none⟩))), (7, (.pointer (some ⟨b3, 0, none⟩))), (8, (.slice (some ⟨b4, 0, none⟩) 256 256)), (9, (.int .i64 (255 - ((0 : Nat) : Int))))] hn hdf rfl rfl ⟨rfl, rfl, rfl, rfl, rfl, rfl, trivial⟩ hM
  · intro k hk a w hI
    obtain ⟨A, hn, hdf, rfl, hM⟩ := hI
    have hj : (255 : Int) - (k : Int) = ((255 - k : Nat) : Int) := by omega
    rw [hj]
    refine wp_seq ?_
    refine wp_seq ?_
    refine wp_region_lit ?_
    refine T_val 16 hn hM rfl rfl rfl (v := (.int .i64 ((255 - k : Nat) : Int))) (g_move rfl rfl) ?_
    refine T_val 17 hn hM rfl rfl rfl (v := (.bool true)) (g_int rfl rfl rfl rfl (geq_nat _)) ?_
    refine T_nil ?_
    refine C_condT hn rfl rfl ?_
    refine wp_skip ?_
    refine x_next ?_
    refine wp_seq ?_
    refine wp_block ?_
    refine wp_seq ?_
    refine wp_region_lit ?_
    refine T_val 20 hn hM rfl rfl rfl (v := (.pointer (some ⟨bc, 0, none⟩))) (g_move rfl rfl) ?_
    refine T_val 21 hn hM rfl rfl rfl (v := (.agg #[(.int .u64 (f k).x.l0), (.int .u64 (f k).x.l1), (.int .u64 (f k).x.l2), (.int .u64 (f k).x.l3), (.int .u64 (f k).x.l4), (.int .u64 (f k).y.l0), (.int .u64 (f k).y.l1), (.int .u64 (f k).y.l2), (.int .u64 (f k).y.l3), (.int .u64 (f k).y.l4), (.int .u64 (f k).z.l0), (.int .u64 (f k).z.l1), (.int .u64 (f k).z.l2), (.int .u64 (f k).z.l3), (.int .u64 (f k).z.l4), (.int .u64 (f k).t.l0), (.int .u64 (f k).t.l1), (.int .u64 (f k).t.l2), (.int .u64 (f k).t.l3), (.int .u64 (f k).t.l4)])) (g_loadRow 1 [(.int .u64 (f k).x.l0), (.int .u64 (f k).x.l1), (.int .u64 (f k).x.l2), (.int .u64 (f k).x.l3), (.int .u64 (f k).x.l4), (.int .u64 (f k).y.l0), (.int .u64 (f k).y.l1), (.int .u64 (f k).y.l2), (.int .u64 (f k).y.l3), (.int .u64 (f k).y.l4), (.int .u64 (f k).z.l0), (.int .u64 (f k).z.l1), (.int .u64 (f k).z.l2), (.int .u64 (f k).z.l3), (.int .u64 (f k).z.l4), (.int .u64 (f k).t.l0), (.int .u64 (f k).t.l1), (.int .u64 (f k).t.l2), (.int .u64 (f k).t.l3), (.int .u64 (f k).t.l4)] rfl rfl rfl Tryd.underlying49 rfl sz49 rfl) ?_
    refine T_val 22 hn hM rfl rfl rfl (v := (.agg #[(.int .u64 (f k).x.l0), (.int .u64 (f k).x.l1), (.int .u64 (f k).x.l2), (.int .u64 (f k).x.l3), (.int .u64 (f k).x.l4), (.int .u64 (f k).y.l0), (.int .u64 (f k).y.l1), (.int .u64 (f k).y.l2), (.int .u64 (f k).y.l3), (.int .u64 (f k).y.l4), (.int .u64 (f k).z.l0), (.int .u64 (f k).z.l1), (.int .u64 (f k).z.l2), (.int .u64 (f k).z.l3), (.int .u64 (f k).z.l4), (.int .u64 (f k).t.l0), (.int .u64 (f k).t.l1), (.int .u64 (f k).t.l2), (.int .u64 (f k).t.l3), (.int .u64 (f k).t.l4)])) (g_loadRow 1 [(.int .u64 (f k).x.l0), (.int .u64 (f k).x.l1), (.int .u64 (f k).x.l2), (.int .u64 (f k).x.l3), (.int .u64 (f k).x.l4), (.int .u64 (f k).y.l0), (.int .u64 (f k).y.l1), (.int .u64 (f k).y.l2), (.int .u64 (f k).y.l3), (.int .u64 (f k).y.l4), (.int .u64 (f k).z.l0), (.int .u64 (f k).z.l1), (.int .u64 (f k).z.l2), (.int .u64 (f k).z.l3), (.int .u64 (f k).z.l4), (.int .u64 (f k).t.l0), (.int .u64 (f k).t.l1), (.int .u64 (f k).t.l2), (.int .u64 (f k).t.l3), (.int .u64 (f k).t.l4)] rfl rfl rfl Tryd.underlying49 rfl sz49 rfl) ?_
    refine T_call 23 hn hM rfl rfl rfl (v := (d k).v) (g_callM (fun w hM => (hr k).dbl w _ (hM.get 5 rfl)) rfl rfl rfl Tryd.func43 nm43 bd43) (fun w hM => ?_)
    refine T_store 1 hn hM rfl rfl rfl rfl rfl rfl rfl (c' := #[(.int .u64 (d k).x.l0), (.int .u64 (d k).x.l1), (.int .u64 (d k).x.l2), (.int .u64 (d k).x.l3), (.int .u64 (d k).x.l4), (.int .u64 (d k).y.l0), (.int .u64 (d k).y.l1), (.int .u64 (d k).y.l2), (.int .u64 (d k).y.l3), (.int .u64 (d k).y.l4), (.int .u64 (d k).z.l0), (.int .u64 (d k).z.l1), (.int .u64 (d k).z.l2), (.int .u64 (d k).z.l3), (.int .u64 (d k).z.l4), (.int .u64 (d k).t.l0), (.int .u64 (d k).t.l1), (.int .u64 (d k).t.l2), (.int .u64 (d k).t.l3), (.int .u64 (d k).t.l4)]) (sets_row sz49 rfl rfl rfl) (fun w hM => ?_)
    replace hM : Mem _ _ w [⟨b4, (arrB 256 x.testBit), 4, true⟩, ⟨b3, #[(.int .u64 (d k).x.l0), (.int .u64 (d k).x.l1), (.int .u64 (d k).x.l2), (.int .u64 (d k).x.l3), (.int .u64 (d k).x.l4), (.int .u64 (d k).y.l0), (.int .u64 (d k).y.l1), (.int .u64 (d k).y.l2), (.int .u64 (d k).y.l3), (.int .u64 (d k).y.l4), (.int .u64 (d k).z.l0), (.int .u64 (d k).z.l1), (.int .u64 (d k).z.l2), (.int .u64 (d k).z.l3), (.int .u64 (d k).z.l4), (.int .u64 (d k).t.l0), (.int .u64 (d k).t.l1), (.int .u64 (d k).t.l2), (.int .u64 (d k).t.l3), (.int .u64 (d k).t.l4)], 49, true⟩, ⟨b2, #[(.int .u64 0), (.int .u64 0), (.int .u64 0), (.int .u64 0), (.int .u64 0), (.int .u64 0), (.int .u64 0), (.int .u64 0), (.int .u64 0), (.int .u64 0), (.int .u64 0), (.int .u64 0), (.int .u64 0), (.int .u64 0), (.int .u64 0), (.int .u64 0), (.int .u64 0), (.int .u64 0), (.int .u64 0), (.int .u64 0)], 49, true⟩, ⟨b1, #[(.int .u64 p.x.l0), (.int .u64 p.x.l1), (.int .u64 p.x.l2), (.int .u64 p.x.l3), (.int .u64 p.x.l4), (.int .u64 p.y.l0), (.int .u64 p.y.l1), (.int .u64 p.y.l2), (.int .u64 p.y.l3), (.int .u64 p.y.l4), (.int .u64 p.z.l0), (.int .u64 p.z.l1), (.int .u64 p.z.l2), (.int .u64 p.z.l3), (.int .u64 p.z.l4), (.int .u64 p.t.l0), (.int .u64 p.t.l1), (.int .u64 p.t.l2), (.int .u64 p.t.l3), (.int .u64 p.t.l4)], 49, true⟩, ⟨b0, (arr .u8 32 (dgF 8 x)), 22, true⟩, ⟨bc, #[(.int .u64 c.d.l0), (.int .u64 c.d.l1), (.int .u64 c.d.l2), (.int .u64 c.d.l3), (.int .u64 c.d.l4), (.int .u64 c.e.l0), (.int .u64 c.e.l1), (.int .u64 c.e.l2), (.int .u64 c.e.l3), (.int .u64 c.e.l4), (.int .u64 c.x.l0), (.int .u64 c.x.l1), (.int .u64 c.x.l2), (.int .u64 c.x.l3), (.int .u64 c.x.l4), (.int .u64 c.y.l0), (.int .u64 c.y.l1), (.int .u64 c.y.l2), (.int .u64 c.y.l3), (.int .u64 c.y.l4), (.int .u64 c.z.l0), (.int .u64 c.z.l1), (.int .u64 c.z.l2), (.int .u64 c.z.l3), (.int .u64 c.z.l4), (.int .u64 c.t.l0), (.int .u64 c.t.l1), (.int .u64 c.t.l2), (.int .u64 c.t.l3), (.int .u64 c.t.l4)], 55, false⟩] := hM
    refine T_nil ?_
    refine wp_seq ?_
    refine wp_region_lit ?_
    refine T_val 24 hn hM rfl rfl rfl (v := (.slice (some ⟨b4, 0, none⟩) 256 256)) (g_move rfl rfl) ?_
    refine T_val 25 hn hM rfl rfl rfl (v := (.int .i64 ((255 - k : Nat) : Int))) (g_move rfl rfl) ?_
    refine T_val 26 hn hM rfl rfl rfl (v := (.pointer (some ⟨b4, 255 - k, none⟩))) (g_indexSl (255 - k) (255 - k) rfl rfl rfl Tryd.underlying89 Tryd.sizeOf4 (by omega) (by omega)) ?_
    by_cases hsp : x.testBit (255 - k) = true
    · skip
      refine T_val 27 hn hM rfl rfl rfl (v := (.bool true)) (g_loadOne 0 rfl rfl rfl Tryd.underlying4 rfl (by rw [arrB_get (by omega), hsp])) ?_
      refine T_nil ?_
      refine C_condT hn rfl rfl ?_
      refine wp_region_lit ?_
      refine T_val 28 hn hM rfl rfl rfl (v := (.pointer (some ⟨bc, 0, none⟩))) (g_move rfl rfl) ?_
      refine T_val 29 hn hM rfl rfl rfl (v := (.agg #[(.int .u64 (d k).x.l0), (.int .u64 (d k).x.l1), (.int .u64 (d k).x.l2), (.int .u64 (d k).x.l3), (.int .u64 (d k).x.l4), (.int .u64 (d k).y.l0), (.int .u64 (d k).y.l1), (.int .u64 (d k).y.l2), (.int .u64 (d k).y.l3), (.int .u64 (d k).y.l4), (.int .u64 (d k).z.l0), (.int .u64 (d k).z.l1), (.int .u64 (d k).z.l2), (.int .u64 (d k).z.l3), (.int .u64 (d k).z.l4), (.int .u64 (d k).t.l0), (.int .u64 (d k).t.l1), (.int .u64 (d k).t.l2), (.int .u64 (d k).t.l3), (.int .u64 (d k).t.l4)])) (g_loadRow 1 [(.int .u64 (d k).x.l0), (.int .u64 (d k).x.l1), (.int .u64 (d k).x.l2), (.int .u64 (d k).x.l3), (.int .u64 (d k).x.l4), (.int .u64 (d k).y.l0), (.int .u64 (d k).y.l1), (.int .u64 (d k).y.l2), (.int .u64 (d k).y.l3), (.int .u64 (d k).y.l4), (.int .u64 (d k).z.l0), (.int .u64 (d k).z.l1), (.int .u64 (d k).z.l2), (.int .u64 (d k).z.l3), (.int .u64 (d k).z.l4), (.int .u64 (d k).t.l0), (.int .u64 (d k).t.l1), (.int .u64 (d k).t.l2), (.int .u64 (d k).t.l3), (.int .u64 (d k).t.l4)] rfl rfl rfl Tryd.underlying49 rfl sz49 rfl) ?_
      refine T_val 30 hn hM rfl rfl rfl (v := (.agg #[(.int .u64 p.x.l0), (.int .u64 p.x.l1), (.int .u64 p.x.l2), (.int .u64 p.x.l3), (.int .u64 p.x.l4), (.int .u64 p.y.l0), (.int .u64 p.y.l1), (.int .u64 p.y.l2), (.int .u64 p.y.l3), (.int .u64 p.y.l4), (.int .u64 p.z.l0), (.int .u64 p.z.l1), (.int .u64 p.z.l2), (.int .u64 p.z.l3), (.int .u64 p.z.l4), (.int .u64 p.t.l0), (.int .u64 p.t.l1), (.int .u64 p.t.l2), (.int .u64 p.t.l3), (.int .u64 p.t.l4)])) (g_loadRow 3 [(.int .u64 p.x.l0), (.int .u64 p.x.l1), (.int .u64 p.x.l2), (.int .u64 p.x.l3), (.int .u64 p.x.l4), (.int .u64 p.y.l0), (.int .u64 p.y.l1), (.int .u64 p.y.l2), (.int .u64 p.y.l3), (.int .u64 p.y.l4), (.int .u64 p.z.l0), (.int .u64 p.z.l1), (.int .u64 p.z.l2), (.int .u64 p.z.l3), (.int .u64 p.z.l4), (.int .u64 p.t.l0), (.int .u64 p.t.l1), (.int .u64 p.t.l2), (.int .u64 p.t.l3), (.int .u64 p.t.l4)] rfl rfl rfl Tryd.underlying49 rfl sz49 rfl) ?_
      refine T_call 31 hn hM rfl rfl rfl (v := (f (k + 1)).v) (g_callM (fun w hM => (hr k).yes hsp w _ (hM.get 5 rfl)) rfl rfl rfl Tryd.func43 nm43 bd43) (fun w hM => ?_)
      refine T_store 1 hn hM rfl rfl rfl rfl rfl rfl rfl (c' := #[(.int .u64 (f (k + 1)).x.l0), (.int .u64 (f (k + 1)).x.l1), (.int .u64 (f (k + 1)).x.l2), (.int .u64 (f (k + 1)).x.l3), (.int .u64 (f (k + 1)).x.l4), (.int .u64 (f (k + 1)).y.l0), (.int .u64 (f (k + 1)).y.l1), (.int .u64 (f (k + 1)).y.l2), (.int .u64 (f (k + 1)).y.l3), (.int .u64 (f (k + 1)).y.l4), (.int .u64 (f (k + 1)).z.l0), (.int .u64 (f (k + 1)).z.l1), (.int .u64 (f (k + 1)).z.l2), (.int .u64 (f (k + 1)).z.l3), (.int .u64 (f (k + 1)).z.l4), (.int .u64 (f (k + 1)).t.l0), (.int .u64 (f (k + 1)).t.l1), (.int .u64 (f (k + 1)).t.l2), (.int .u64 (f (k + 1)).t.l3), (.int .u64 (f (k + 1)).t.l4)]) (sets_row sz49 rfl rfl rfl) (fun w hM => ?_)
      replace hM : Mem _ _ w [⟨b4, (arrB 256 x.testBit), 4, true⟩, ⟨b3, #[(.int .u64 (f (k + 1)).x.l0), (.int .u64 (f (k + 1)).x.l1), (.int .u64 (f (k + 1)).x.l2), (.int .u64 (f (k + 1)).x.l3), (.int .u64 (f (k + 1)).x.l4), (.int .u64 (f (k + 1)).y.l0), (.int .u64 (f (k + 1)).y.l1), (.int .u64 (f (k + 1)).y.l2), (.int .u64 (f (k + 1)).y.l3), (.int .u64 (f (k + 1)).y.l4), (.int .u64 (f (k + 1)).z.l0), (.int .u64 (f (k + 1)).z.l1), (.int .u64 (f (k + 1)).z.l2), (.int .u64 (f (k + 1)).z.l3), (.int .u64 (f (k + 1)).z.l4), (.int .u64 (f (k + 1)).t.l0), (.int .u64 (f (k + 1)).t.l1), (.int .u64 (f (k + 1)).t.l2), (.int .u64 (f (k + 1)).t.l3), (.int .u64 (f (k + 1)).t.l4)], 49, true⟩, ⟨b2, #[(.int .u64 0), (.int .u64 0), (.int .u64 0), (.int .u64 0), (.int .u64 0), (.int .u64 0), (.int .u64 0), (.int .u64 0), (.int .u64 0), (.int .u64 0), (.int .u64 0), (.int .u64 0), (.int .u64 0), (.int .u64 0), (.int .u64 0), (.int .u64 0), (.int .u64 0), (.int .u64 0), (.int .u64 0), (.int .u64 0)], 49, true⟩, ⟨b1, #[(.int .u64 p.x.l0), (.int .u64 p.x.l1), (.int .u64 p.x.l2), (.int .u64 p.x.l3), (.int .u64 p.x.l4), (.int .u64 p.y.l0), (.int .u64 p.y.l1), (.int .u64 p.y.l2), (.int .u64 p.y.l3), (.int .u64 p.y.l4), (.int .u64 p.z.l0), (.int .u64 p.z.l1), (.int .u64 p.z.l2), (.int .u64 p.z.l3), (.int .u64 p.z.l4), (.int .u64 p.t.l0), (.int .u64 p.t.l1), (.int .u64 p.t.l2), (.int .u64 p.t.l3), (.int .u64 p.t.l4)], 49, true⟩, ⟨b0, (arr .u8 32 (dgF 8 x)), 22, true⟩, ⟨bc, #[(.int .u64 c.d.l0), (.int .u64 c.d.l1), (.int .u64 c.d.l2), (.int .u64 c.d.l3), (.int .u64 c.d.l4), (.int .u64 c.e.l0), (.int .u64 c.e.l1), (.int .u64 c.e.l2), (.int .u64 c.e.l3), (.int .u64 c.e.l4), (.int .u64 c.x.l0), (.int .u64 c.x.l1), (.int .u64 c.x.l2), (.int .u64 c.x.l3), (.int .u64 c.x.l4), (.int .u64 c.y.l0), (.int .u64 c.y.l1), (.int .u64 c.y.l2), (.int .u64 c.y.l3), (.int .u64 c.y.l4), (.int .u64 c.z.l0), (.int .u64 c.z.l1), (.int .u64 c.z.l2), (.int .u64 c.z.l3), (.int .u64 c.z.l4), (.int .u64 c.t.l0), (.int .u64 c.t.l1), (.int .u64 c.t.l2), (.int .u64 c.t.l3), (.int .u64 c.t.l4)], 55, false⟩] := hM
      refine T_end ?_
      refine x_norm ?_
      refine x_next ?_
      refine wp_region_lit ?_
      refine T_val 18 hn hM rfl rfl rfl (v := (.int .i64 ((255 - k : Nat) : Int))) (g_move rfl rfl) ?_
      refine T_val 19 hn hM rfl rfl rfl (v := (.int .i64 (255 - ((k + 1 : Nat) : Int)))) (g_int rfl rfl rfl rfl (sub255 hk)) ?_
      refine T_val 9 hn hM rfl rfl rfl (v := (.int .i64 (255 - ((k + 1 : Nat) : Int)))) (g_assign rfl rfl) ?_
      refine T_nil ?_
      exact frame_ex [(0, (.pointer (some ⟨bc, 0, none⟩))), (5, (.pointer (some ⟨b1, 0, none⟩))), (6, (.pointer (some ⟨b2, 0, none⟩))), (7, (.pointer (some ⟨b3, 0, none⟩))), (8, (.slice (some ⟨b4, 0, none⟩) 256 256)), (9, (.int .i64 (255 - (((k + 1) : Nat) : Int))))] hn hdf rfl rfl ⟨rfl, rfl, rfl, rfl, rfl, rfl, trivial⟩ hM
    · skip
      rw [Bool.not_eq_true] at hsp
      rw [(hr k).no hsp] at hM
      refine T_val 27 hn hM rfl rfl rfl (v := (.bool false)) (g_loadOne 0 rfl rfl rfl Tryd.underlying4 rfl (by rw [arrB_get (by omega), hsp])) ?_
      refine T_nil ?_
      refine C_condF hn rfl rfl ?_
      refine wp_skip ?_
      refine x_norm ?_
      refine x_next ?_
      refine wp_region_lit ?_
      refine T_val 18 hn hM rfl rfl rfl (v := (.int .i64 ((255 - k : Nat) : Int))) (g_move rfl rfl) ?_
      refine T_val 19 hn hM rfl rfl rfl (v := (.int .i64 (255 - ((k + 1 : Nat) : Int)))) (g_int rfl rfl rfl rfl (sub255 hk)) ?_
      refine T_val 9 hn hM rfl rfl rfl (v := (.int .i64 (255 - ((k + 1 : Nat) : Int)))) (g_assign rfl rfl) ?_
      refine T_nil ?_
      exact frame_ex [(0, (.pointer (some ⟨bc, 0, none⟩))), (5, (.pointer (some ⟨b1, 0, none⟩))), (6, (.pointer (some ⟨b2, 0, none⟩))), (7, (.pointer (some ⟨b3, 0, none⟩))), (8, (.slice (some ⟨b4, 0, none⟩) 256 256)), (9, (.int .i64 (255 - (((k + 1) : Nat) : Int))))] hn hdf rfl rfl ⟨rfl, rfl, rfl, rfl, rfl, rfl, trivial⟩ hM
  · intro a w hI
    obtain ⟨A, hn, hdf, rfl, hM⟩ := hI
    refine wp_seq ?_
    refine wp_seq ?_
    refine wp_region_lit ?_
    refine T_val 16 hn hM rfl rfl rfl (v := (.int .i64 (255 - ((256 : Nat) : Int)))) (g_move rfl rfl) ?_
    refine T_val 17 hn hM rfl rfl rfl (v := (.bool false)) (g_int rfl rfl rfl rfl rfl) ?_
    refine T_nil ?_
    refine C_condF hn rfl rfl ?_
    refine wp_exit ?_
    refine x_thenE ?_
    refine x_thenE ?_
    refine x_in ?_
    refine x_next ?_
    refine wp_seq ?_
    refine wp_region_lit ?_
    refine T_val 32 hn hM rfl rfl rfl (v := (.agg #[(.int .u64 (f 256).x.l0), (.int .u64 (f 256).x.l1), (.int .u64 (f 256).x.l2), (.int .u64 (f 256).x.l3), (.int .u64 (f 256).x.l4), (.int .u64 (f 256).y.l0), (.int .u64 (f 256).y.l1), (.int .u64 (f 256).y.l2), (.int .u64 (f 256).y.l3), (.int .u64 (f 256).y.l4), (.int .u64 (f 256).z.l0), (.int .u64 (f 256).z.l1), (.int .u64 (f 256).z.l2), (.int .u64 (f 256).z.l3), (.int .u64 (f 256).z.l4), (.int .u64 (f 256).t.l0), (.int .u64 (f 256).t.l1), (.int .u64 (f 256).t.l2), (.int .u64 (f 256).t.l3), (.int .u64 (f 256).t.l4)])) (g_loadRow 1 [(.int .u64 (f 256).x.l0), (.int .u64 (f 256).x.l1), (.int .u64 (f 256).x.l2), (.int .u64 (f 256).x.l3), (.int .u64 (f 256).x.l4), (.int .u64 (f 256).y.l0), (.int .u64 (f 256).y.l1), (.int .u64 (f 256).y.l2), (.int .u64 (f 256).y.l3), (.int .u64 (f 256).y.l4), (.int .u64 (f 256).z.l0), (.int .u64 (f 256).z.l1), (.int .u64 (f 256).z.l2), (.int .u64 (f 256).z.l3), (.int .u64 (f 256).z.l4), (.int .u64 (f 256).t.l0), (.int .u64 (f 256).t.l1), (.int .u64 (f 256).t.l2), (.int .u64 (f 256).t.l3), (.int .u64 (f 256).t.l4)] rfl rfl rfl Tryd.underlying49 rfl sz49 rfl) ?_
    refine T_store 2 hn hM rfl rfl rfl rfl rfl rfl rfl (c' := #[(.int .u64 (f 256).x.l0), (.int .u64 (f 256).x.l1), (.int .u64 (f 256).x.l2), (.int .u64 (f 256).x.l3), (.int .u64 (f 256).x.l4), (.int .u64 (f 256).y.l0), (.int .u64 (f 256).y.l1), (.int .u64 (f 256).y.l2), (.int .u64 (f 256).y.l3), (.int .u64 (f 256).y.l4), (.int .u64 (f 256).z.l0), (.int .u64 (f 256).z.l1), (.int .u64 (f 256).z.l2), (.int .u64 (f 256).z.l3), (.int .u64 (f 256).z.l4), (.int .u64 (f 256).t.l0), (.int .u64 (f 256).t.l1), (.int .u64 (f 256).t.l2), (.int .u64 (f 256).t.l3), (.int .u64 (f 256).t.l4)]) (sets_row sz49 rfl rfl rfl) (fun w hM => ?_)
    replace hM : Mem _ _ w [⟨b4, (arrB 256 x.testBit), 4, true⟩, ⟨b3, #[(.int .u64 (f 256).x.l0), (.int .u64 (f 256).x.l1), (.int .u64 (f 256).x.l2), (.int .u64 (f 256).x.l3), (.int .u64 (f 256).x.l4), (.int .u64 (f 256).y.l0), (.int .u64 (f 256).y.l1), (.int .u64 (f 256).y.l2), (.int .u64 (f 256).y.l3), (.int .u64 (f 256).y.l4), (.int .u64 (f 256).z.l0), (.int .u64 (f 256).z.l1), (.int .u64 (f 256).z.l2), (.int .u64 (f 256).z.l3), (.int .u64 (f 256).z.l4), (.int .u64 (f 256).t.l0), (.int .u64 (f 256).t.l1), (.int .u64 (f 256).t.l2), (.int .u64 (f 256).t.l3), (.int .u64 (f 256).t.l4)], 49, true⟩, ⟨b2, #[(.int .u64 (f 256).x.l0), (.int .u64 (f 256).x.l1), (.int .u64 (f 256).x.l2), (.int .u64 (f 256).x.l3), (.int .u64 (f 256).x.l4), (.int .u64 (f 256).y.l0), (.int .u64 (f 256).y.l1), (.int .u64 (f 256).y.l2), (.int .u64 (f 256).y.l3), (.int .u64 (f 256).y.l4), (.int .u64 (f 256).z.l0), (.int .u64 (f 256).z.l1), (.int .u64 (f 256).z.l2), (.int .u64 (f 256).z.l3), (.int .u64 (f 256).z.l4), (.int .u64 (f 256).t.l0), (.int .u64 (f 256).t.l1), (.int .u64 (f 256).t.l2), (.int .u64 (f 256).t.l3), (.int .u64 (f 256).t.l4)], 49, true⟩, ⟨b1, #[(.int .u64 p.x.l0), (.int .u64 p.x.l1), (.int .u64 p.x.l2), (.int .u64 p.x.l3), (.int .u64 p.x.l4), (.int .u64 p.y.l0), (.int .u64 p.y.l1), (.int .u64 p.y.l2), (.int .u64 p.y.l3), (.int .u64 p.y.l4), (.int .u64 p.z.l0), (.int .u64 p.z.l1), (.int .u64 p.z.l2), (.int .u64 p.z.l3), (.int .u64 p.z.l4), (.int .u64 p.t.l0), (.int .u64 p.t.l1), (.int .u64 p.t.l2), (.int .u64 p.t.l3), (.int .u64 p.t.l4)], 49, true⟩, ⟨b0, (arr .u8 32 (dgF 8 x)), 22, true⟩, ⟨bc, #[(.int .u64 c.d.l0), (.int .u64 c.d.l1), (.int .u64 c.d.l2), (.int .u64 c.d.l3), (.int .u64 c.d.l4), (.int .u64 c.e.l0), (.int .u64 c.e.l1), (.int .u64 c.e.l2), (.int .u64 c.e.l3), (.int .u64 c.e.l4), (.int .u64 c.x.l0), (.int .u64 c.x.l1), (.int .u64 c.x.l2), (.int .u64 c.x.l3), (.int .u64 c.x.l4), (.int .u64 c.y.l0), (.int .u64 c.y.l1), (.int .u64 c.y.l2), (.int .u64 c.y.l3), (.int .u64 c.y.l4), (.int .u64 c.z.l0), (.int .u64 c.z.l1), (.int .u64 c.z.l2), (.int .u64 c.z.l3), (.int .u64 c.z.l4), (.int .u64 c.t.l0), (.int .u64 c.t.l1), (.int .u64 c.t.l2), (.int .u64 c.t.l3), (.int .u64 c.t.l4)], 55, false⟩] := hM
    refine T_nil ?_
    refine wp_ret ?_
    refine leave (.inl rfl) hn hdf hM rfl Tryd.results20 (vs := [(.agg #[(.int .u64 (f 256).x.l0), (.int .u64 (f 256).x.l1), (.int .u64 (f 256).x.l2), (.int .u64 (f 256).x.l3), (.int .u64 (f 256).x.l4), (.int .u64 (f 256).y.l0), (.int .u64 (f 256).y.l1), (.int .u64 (f 256).y.l2), (.int .u64 (f 256).y.l3), (.int .u64 (f 256).y.l4), (.int .u64 (f 256).z.l0), (.int .u64 (f 256).z.l1), (.int .u64 (f 256).z.l2), (.int .u64 (f 256).z.l3), (.int .u64 (f 256).z.l4), (.int .u64 (f 256).t.l0), (.int .u64 (f 256).t.l1), (.int .u64 (f 256).t.l2), (.int .u64 (f 256).t.l3), (.int .u64 (f 256).t.l4)])]) (.row 2 rfl rfl Tryd.underlying49 rfl sz49 .nil) ?_
    exact ⟨rfl, hM.done⟩

end Go.Proofs.YtbonnnakebfniaaDoor
