/- field: Bytes. -/
import Derived.Test.YtbonnnakebfniaaDoorWc
import Derived.Test.YtbonnnakebfniaaDoorBx
namespace Go.Proofs.YtbonnnakebfniaaDoor
open Go Go.RowKit Num Mx


theorem sz5 : (Tryd.prog.info? 5).map (·.size) = some 1 := by kernel_rfl
theorem sz22 : (Tryd.prog.info? 22).map (·.size) = some 32 := by kernel_rfl

set_option maxHeartbeats 1000000 in
set_option maxRecDepth 100000 in
theorem bytes_E {a : El} {m : F} (ha : IsL a m) : Pure 13 #[a.v] (.agg (arr .u8 32 (dgF 8 m.val))) := fun w0 => by
  have e : arr .u8 32 (dgF 8 m.val) = arr .u8 32 (dgF 8 (val m.val.testBit 255)) := by rw [val_all (fval_lt m)]
  rw [e]
  refine enter Tryd.func13 rfl Tryd.ntmps13 (Nat.le_of_ble_eq_true rfl) fun A hn hdf => ?_
  have hM : Mem w0 [] w0 [] := Mem.start w0
  replace hM := hM
  refine wp_seq ?_
  refine wp_region_lit ?_
  refine T_box 1 hn hM rfl rfl rfl rfl rfl #[(.int .u64 a.l0), (.int .u64 a.l1), (.int .u64 a.l2), (.int .u64 a.l3), (.int .u64 a.l4)] rfl (fun b0 w hM => ?_)
  refine T_alloc 2 hn hM rfl rfl rfl rfl Tryd.zeroValue22 (arr .u8 32 (fun _ => 0)) (by rfl) (fun b1 w hM => ?_)
  refine T_nil ?_
  refine wp_seq ?_
  refine wp_region_lit ?_
  refine T_val 5 hn hM rfl rfl rfl (v := (.agg #[(.int .u64 a.l0), (.int .u64 a.l1), (.int .u64 a.l2), (.int .u64 a.l3), (.int .u64 a.l4)])) (g_loadRow 1 [(.int .u64 a.l0), (.int .u64 a.l1), (.int .u64 a.l2), (.int .u64 a.l3), (.int .u64 a.l4)] rfl rfl rfl Tryd.underlying30 rfl sz30 rfl) ?_
  refine T_call 6 hn hM rfl rfl rfl (v := (.agg (arr .u64 5 (dgF 51 m.val)))) (g_call (least_A ha) rfl rfl rfl Tryd.func28 nm28 bd28) (fun w hM => ?_)
  refine T_store 1 hn hM rfl rfl rfl rfl rfl rfl rfl (c' := (arr .u64 5 (dgF 51 m.val))) (sets_allA sz30 rfl) (fun w hM => ?_)
  replace hM : Mem _ _ w [⟨b1, (arr .u8 32 (fun _ => 0)), 22, true⟩, ⟨b0, (arr .u64 5 (dgF 51 m.val)), 30, true⟩] := hM
  refine T_nil ?_
  refine wp_seq ?_
  refine wp_region_lit ?_
  refine T_alloc 3 hn hM rfl rfl rfl rfl Tryd.zeroValue22 (arr .u8 32 (fun _ => 0)) (by rfl) (fun b2 w hM => ?_)
  refine T_nil ?_
  refine wp_seq ?_
  refine wp_seq ?_
  refine wp_region_lit ?_
  refine T_val 7 hn hM rfl rfl rfl (v := (.int .i64 0)) (g_move rfl rfl) ?_
  refine T_nil ?_
  refine wp_block ?_
  refine C_loop (fun k a w => ∃ A : Act, A.tmps.size = 31 ∧ A.defers = [] ∧ a = putAll A [(1, (.pointer (some ⟨b0, 0, none⟩))), (2, (.pointer (some ⟨b1, 0, none⟩))), (3, (.pointer (some ⟨b2, 0, none⟩))), (7, (.int .i64 ((k : Nat) : Int)))] ∧ Mem w0 [] w [⟨b2, (arr .u8 32 (dgF 8 (val m.val.testBit k))), 22, true⟩, ⟨b1, (arr .u8 32 (fun _ => 0)), 22, true⟩, ⟨b0, (arr .u64 5 (dgF 51 m.val)), 30, true⟩]) 255 ?_ ?_ ?_
  · skip
    replace hM : Mem w0 [] w [⟨b2, (arr .u8 32 (dgF 8 (val m.val.testBit 0))), 22, true⟩, ⟨b1, (arr .u8 32 (fun _ => 0)), 22, true⟩, ⟨b0, (arr .u64 5 (dgF 51 m.val)), 30, true⟩] := by rw [dgF_zero]; exact hM
    exact frame_ex [(1, (.pointer (some ⟨b0, 0, none⟩))), (2, (.pointer (some ⟨b1, 0, none⟩))), (3, (.pointer (some ⟨b2, 0, none⟩))), (7, (.int .i64 ((0 : Nat) : Int)))] hn hdf rfl rfl ⟨rfl, rfl, rfl, rfl, trivial⟩ hM
  · intro k hk a w hI
    obtain ⟨A, hn, hdf, rfl, hM⟩ := hI
    refine wp_seq ?_
    refine wp_region_lit ?_
    refine T_val 8 hn hM rfl rfl rfl (v := (.bool true)) (g_int rfl rfl rfl rfl (lss_nat k 255 true (decide_eq_true (by omega)))) ?_
    refine T_nil ?_
    refine wp_seq ?_
    refine C_condT hn rfl rfl ?_
    refine wp_skip ?_
    refine x_next ?_
    refine wp_seq ?_
    refine wp_block ?_
    refine wp_seq ?_
    refine wp_region_lit ?_
    refine T_val 9 hn hM rfl rfl rfl (v := (.int .i64 ((k : Nat) : Int))) (g_move rfl rfl) ?_
    refine T_val 4 hn hM rfl rfl rfl (v := (.int .i64 ((k : Nat) : Int))) (g_assign rfl rfl) ?_
    refine T_nil ?_
    refine R_any [.val, .val, .val, .val, .val, .val, .val, .val, .val, .val, .val, .val, .val, .val, .val, .val, .val] 17 [] [] hn hM rfl (by kernel_rfl) (by kernel_rfl) rfl rfl rfl ?_
    refine E_val 10 rfl rfl rfl rfl (v := (.int .i64 ((k : Nat) : Int))) (g_move rfl rfl) ?_
    refine E_val 11 rfl rfl rfl rfl (v := (.int .i64 ((k / 8 : Nat) : Int))) (g_quo rfl rfl rfl (by decide) (quo_nat k 8 (by simp only [bitsOf]; omega))) ?_
    refine E_val 12 rfl rfl rfl rfl (v := (.pointer (some ⟨b2, k / 8, none⟩))) (g_indexAddrN (k / 8) (k / 8) rfl rfl rfl Tryd.underlying22 Tryd.sizeOf5 (by omega) (by omega)) ?_
    refine E_val 13 rfl rfl rfl rfl (v := (.int .u8 ((dg 8 (val m.val.testBit k) (k / 8) : Nat) : Int))) (g_loadOne 0 rfl rfl rfl Tryd.underlying5 rfl (arr_get (by omega))) ?_
    refine E_val 14 rfl rfl rfl rfl (v := (.int .i64 ((k : Nat) : Int))) (g_move rfl rfl) ?_
    refine E_val 15 rfl rfl rfl rfl (v := (.int .i64 ((k / 51 : Nat) : Int))) (g_quo rfl rfl rfl (by decide) (quo_nat k 51 (by simp only [bitsOf]; omega))) ?_
    refine E_val 16 rfl rfl rfl rfl (v := (.pointer (some ⟨b0, 0, none⟩))) (g_fieldAddr rfl rfl Tryd.underlying30 rfl Tryd.sizeOf28 0 rfl) ?_
    refine E_val 17 rfl rfl rfl rfl (v := (.pointer (some ⟨b0, k / 51, none⟩))) (g_indexAddrN (k / 51) (k / 51) rfl rfl rfl Tryd.underlying28 Tryd.sizeOf27 (by omega) (by omega)) ?_
    refine E_val 18 rfl rfl rfl rfl (v := (.int .u64 ((dg 51 m.val (k / 51) : Nat) : Int))) (g_loadOne 2 rfl rfl rfl Tryd.underlying27 rfl (arr_get (by omega))) ?_
    refine E_val 19 rfl rfl rfl rfl (v := (.int .i64 ((k : Nat) : Int))) (g_move rfl rfl) ?_
    refine E_val 20 rfl rfl rfl rfl (v := (.int .i64 ((k % 51 : Nat) : Int))) (g_rem rfl rfl rfl (by decide) (rem_nat k 51)) ?_
    refine E_val 21 rfl rfl rfl rfl (v := (.int .u64 ((dg 51 m.val (k / 51) >>> (k % 51) : Nat) : Int))) (g_shr rfl rfl rfl (shr_nat (k := .u64) _ _ (by simp only [IntKind.bits]; omega))) ?_
    refine E_val 22 rfl rfl rfl rfl (v := (.int .u64 (((m.val.testBit k).toNat : Nat) : Int))) (g_int rfl rfl rfl rfl (and_bit (by decide) (by decide))) ?_
    refine E_val 23 rfl rfl rfl rfl (v := (.int .u8 (((m.val.testBit k).toNat : Nat) : Int))) (g_convInt rfl rfl Tryd.underlying27 Tryd.underlying5 (wrap_bit _)) ?_
    refine E_val 24 rfl rfl rfl rfl (v := (.int .i64 ((k : Nat) : Int))) (g_move rfl rfl) ?_
    refine E_val 25 rfl rfl rfl rfl (v := (.int .i64 ((k % 8 : Nat) : Int))) (g_rem rfl rfl rfl (by decide) (rem_nat k 8)) ?_
    refine E_val 26 rfl rfl rfl rfl (v := (.int .u8 (((m.val.testBit k).toNat <<< (k % 8) : Nat) : Int))) (g_shl rfl rfl rfl (shl_bit _ (by simp only [bitsOf]; omega))) ?_
    refine E_nil ?_
    refine ⟨?_, fun β1 w hM => ?_⟩
    · skip
      refine M_val rfl ?_
      refine M_val rfl ?_
      refine M_val rfl ?_
      refine M_val rfl ?_
      refine M_val rfl ?_
      refine M_val rfl ?_
      refine M_val rfl ?_
      refine M_val rfl ?_
      refine M_val rfl ?_
      refine M_val rfl ?_
      refine M_val rfl ?_
      refine M_val rfl ?_
      refine M_val rfl ?_
      refine M_val rfl ?_
      refine M_val rfl ?_
      refine M_val rfl ?_
      refine M_val rfl ?_
      exact M_nil
    show wpList _ _ _ (_ :: _) (putAll _ (_)) _
    refine T_val 27 hn hM rfl rfl rfl (v := (.int .u8 ((dg 8 (val m.val.testBit k) (k / 8) ||| (m.val.testBit k).toNat <<< (k % 8) : Nat) : Int))) (g_int rfl rfl rfl rfl (or_bit _ (dg_lt 8 _ _) (by simp only [bitsOf]; omega))) ?_
    refine T_val 28 hn hM rfl rfl rfl (v := (.pointer (some ⟨b2, k / 8, none⟩))) (g_indexAddrN (k / 8) (k / 8) rfl rfl rfl Tryd.underlying22 Tryd.sizeOf5 (by omega) (by omega)) ?_
    refine T_store 0 hn hM rfl rfl rfl rfl rfl rfl rfl (c' := (arr .u8 32 (dgF 8 (val m.val.testBit (k + 1))))) (sets_arr sz5 (by omega) (fun q _ => dgF_step _ (by decide) q)) (fun w hM => ?_)
    replace hM : Mem _ _ w [⟨b2, (arr .u8 32 (dgF 8 (val m.val.testBit (k + 1)))), 22, true⟩, ⟨b1, (arr .u8 32 (fun _ => 0)), 22, true⟩, ⟨b0, (arr .u64 5 (dgF 51 m.val)), 30, true⟩] := hM
    refine T_end ?_
    refine x_norm ?_
    refine x_next ?_
    refine wp_region_lit ?_
    refine T_val 29 hn hM rfl rfl rfl (v := (.int .i64 ((k + 1 : Nat) : Int))) (g_int rfl rfl rfl rfl (add_nat k 1 (by simp only [bitsOf]; omega))) ?_
    refine T_val 7 hn hM rfl rfl rfl (v := (.int .i64 ((k + 1 : Nat) : Int))) (g_move rfl rfl) ?_
    refine T_nil ?_
    exact frame_ex [(1, (.pointer (some ⟨b0, 0, none⟩))), (2, (.pointer (some ⟨b1, 0, none⟩))), (3, (.pointer (some ⟨b2, 0, none⟩))), (7, (.int .i64 (((k + 1) : Nat) : Int)))] hn hdf rfl rfl ⟨rfl, rfl, rfl, rfl, trivial⟩ hM
  · intro a w hI
    obtain ⟨A, hn, hdf, rfl, hM⟩ := hI
    refine wp_seq ?_
    refine wp_region_lit ?_
    refine T_val 8 hn hM rfl rfl rfl (v := (.bool false)) (g_int rfl rfl rfl rfl (lss_nat 255 255 false (decide_eq_false (by omega)))) ?_
    refine T_nil ?_
    refine wp_seq ?_
    refine C_condF hn rfl rfl ?_
    refine wp_exit ?_
    refine x_thenE ?_
    refine x_thenE ?_
    refine x_in ?_
    refine x_next ?_
    refine wp_seq ?_
    refine wp_region_lit ?_
    refine T_val 30 hn hM rfl rfl rfl (v := (.agg (arr .u8 32 (dgF 8 (val m.val.testBit 255))))) (g_loadAll 0 rfl rfl rfl Tryd.underlying22 rfl (by rw [arr_len]; exact sz22)) ?_
    refine T_store 1 hn hM rfl rfl rfl rfl rfl rfl rfl (c' := (arr .u8 32 (dgF 8 (val m.val.testBit 255)))) (sets_allA sz22 arr_len) (fun w hM => ?_)
    replace hM : Mem _ _ w [⟨b2, (arr .u8 32 (dgF 8 (val m.val.testBit 255))), 22, true⟩, ⟨b1, (arr .u8 32 (dgF 8 (val m.val.testBit 255))), 22, true⟩, ⟨b0, (arr .u64 5 (dgF 51 m.val)), 30, true⟩] := hM
    refine T_nil ?_
    refine wp_ret ?_
    refine leave (.inl rfl) hn hdf hM rfl Tryd.results13 (vs := [(.agg (arr .u8 32 (dgF 8 (val m.val.testBit 255))))]) (.row 1 rfl rfl Tryd.underlying22 rfl (by rw [arr_len]; exact sz22) .nil) ?_
    exact ⟨rfl, hM.done⟩

end Go.Proofs.YtbonnnakebfniaaDoor
