/- field: Same, Minus1Root. -/
import Derived.Test.YtbonnnakebfniaaDoorFx
namespace Go.Proofs.YtbonnnakebfniaaDoor
open Go Go.RowKit Num Mx

theorem nm28 : (Tryd.f28.name == "runtime.NumGoroutine") = false := by kernel_rfl
theorem bd28 : Tryd.f28.body.isNone = false := by kernel_rfl
theorem sz30 : (Tryd.prog.info? 30).map (·.size) = some 5 := by kernel_rfl

set_option maxHeartbeats 1000000 in
set_option maxRecDepth 100000 in
theorem same_E {a b : El} {m n : F} (ha : IsL a m) (hb : IsL b n) : Pure 63 #[a.v, b.v] (.bool (decide (m = n))) := fun w => by
  refine enter Tryd.func63 rfl Tryd.ntmps63 (Nat.le_of_ble_eq_true rfl) fun A hn hdf => ?_
  have hM : Mem w [] w [] := Mem.start w
  replace hM := hM
  refine wp_seq ?_
  refine wp_region_lit ?_
  refine T_box 2 hn hM rfl rfl rfl rfl rfl #[(.int .u64 a.l0), (.int .u64 a.l1), (.int .u64 a.l2), (.int .u64 a.l3), (.int .u64 a.l4)] rfl (fun b0 w hM => ?_)
  refine T_box 3 hn hM rfl rfl rfl rfl rfl #[(.int .u64 b.l0), (.int .u64 b.l1), (.int .u64 b.l2), (.int .u64 b.l3), (.int .u64 b.l4)] rfl (fun b1 w hM => ?_)
  refine T_val 4 hn hM rfl rfl rfl (v := (.bool false)) (g_assign rfl rfl) ?_
  refine T_nil ?_
  refine wp_seq ?_
  refine R_any [.val, .val, .val] 3 [] [] hn hM rfl (by kernel_rfl) (by kernel_rfl) rfl rfl rfl ?_
  refine E_val 5 rfl rfl rfl rfl (v := (.agg #[(.int .u64 a.l0), (.int .u64 a.l1), (.int .u64 a.l2), (.int .u64 a.l3), (.int .u64 a.l4)])) (g_loadRow 1 [(.int .u64 a.l0), (.int .u64 a.l1), (.int .u64 a.l2), (.int .u64 a.l3), (.int .u64 a.l4)] rfl rfl rfl Tryd.underlying30 rfl sz30 rfl) ?_
  refine E_call 6 rfl rfl rfl rfl (v := (leastE m).v) (g_call (least_E ha) rfl rfl rfl Tryd.func28 nm28 bd28) ?_
  refine E_val 7 rfl rfl rfl rfl (v := (.agg #[(.int .u64 b.l0), (.int .u64 b.l1), (.int .u64 b.l2), (.int .u64 b.l3), (.int .u64 b.l4)])) (g_loadRow 0 [(.int .u64 b.l0), (.int .u64 b.l1), (.int .u64 b.l2), (.int .u64 b.l3), (.int .u64 b.l4)] rfl rfl rfl Tryd.underlying30 rfl sz30 rfl) ?_
  refine E_nil ?_
  refine ⟨?_, fun β1 w hM => ?_⟩
  · skip
    refine M_val rfl ?_
    refine M_val rfl ?_
    refine M_val rfl ?_
    exact M_nil
  show wpList _ _ _ (_ :: _) (putAll _ (_)) _
  refine T_call 8 hn hM rfl rfl rfl (v := (leastE n).v) (g_call (least_E hb) rfl rfl rfl Tryd.func28 nm28 bd28) (fun w hM => ?_)
  refine T_val 9 hn hM rfl rfl rfl (v := (.bool (decide (m = n)))) (g_binOp rfl rfl rfl (fun w => eqLeast _ _ m n w)) ?_
  refine T_val 4 hn hM rfl rfl rfl (v := (.bool (decide (m = n)))) (g_assign rfl rfl) ?_
  refine T_nil ?_
  refine wp_ret ?_
  refine leave (.inl rfl) hn hdf hM rfl Tryd.results63 (vs := [(.bool (decide (m = n)))]) (.tmp 4 rfl .nil) ?_
  exact ⟨rfl, hM.done⟩

theorem nm8 : (Tryd.f8.name == "runtime.NumGoroutine") = false := by kernel_rfl
theorem bd8 : Tryd.f8.body.isNone = false := by kernel_rfl
theorem nm27 : (Tryd.f27.name == "runtime.NumGoroutine") = false := by kernel_rfl
theorem bd27 : Tryd.f27.body.isNone = false := by kernel_rfl
theorem nm38 : (Tryd.f38.name == "runtime.NumGoroutine") = false := by kernel_rfl
theorem bd38 : Tryd.f38.body.isNone = false := by kernel_rfl
theorem nm44 : (Tryd.f44.name == "runtime.NumGoroutine") = false := by kernel_rfl
theorem bd44 : Tryd.f44.body.isNone = false := by kernel_rfl
theorem nm55 : (Tryd.f55.name == "runtime.NumGoroutine") = false := by kernel_rfl
theorem bd55 : Tryd.f55.body.isNone = false := by kernel_rfl

set_option maxHeartbeats 1000000 in
set_option maxRecDepth 100000 in
theorem minus1_E : ∃ c : El, IsL c (if ((pw (toF 2) ((Num.P - 1) / 4))).val % 2 == 1 then (0 - (pw (toF 2) ((Num.P - 1) / 4))) else (pw (toF 2) ((Num.P - 1) / 4))) ∧ Pure 64 #[] c.v := by
  obtain ⟨c1, hc1, pc1⟩ := pow20_E (small_E 2 (by decide)).1
  obtain ⟨c2, hc2, pc2⟩ := neg_E hc1
  obtain ⟨c3, hc3⟩ : ∃ c : El, c = if ((pw (toF 2) ((Num.P - 1) / 4))).val % 2 == 1 then c2 else c1 := ⟨_, rfl⟩
  have pc3 := choose_E (((pw (toF 2) ((Num.P - 1) / 4))).val % 2 == 1) c2 c1
  rw [← hc3] at pc3
  refine ⟨c3, (is_choose hc2 hc1 hc3), fun w => ?_⟩
  refine enter Tryd.func64 rfl Tryd.ntmps64 (Nat.le_of_ble_eq_true rfl) fun A hn hdf => ?_
  have hM : Mem w [] w [] := Mem.start w
  replace hM := hM
  refine wp_seq ?_
  refine wp_region_lit ?_
  refine T_alloc 0 hn hM rfl rfl rfl rfl Tryd.zeroValue30 #[(.int .u64 0), (.int .u64 0), (.int .u64 0), (.int .u64 0), (.int .u64 0)] rfl (fun b0 w hM => ?_)
  refine T_nil ?_
  refine wp_seq ?_
  refine wp_region_lit ?_
  refine T_call 2 hn hM rfl rfl rfl (v := (⟨2, 0, 0, 0, 0⟩ : El).v) (g_call (small_E 2 (by decide)).2 rfl rfl rfl Tryd.func8 nm8 bd8) (fun w hM => ?_)
  refine T_call 3 hn hM rfl rfl rfl (v := c1.v) (g_call pc1 rfl rfl rfl Tryd.func27 nm27 bd27) (fun w hM => ?_)
  refine T_alloc 1 hn hM rfl rfl rfl rfl Tryd.zeroValue30 #[(.int .u64 0), (.int .u64 0), (.int .u64 0), (.int .u64 0), (.int .u64 0)] rfl (fun b1 w hM => ?_)
  refine T_store 0 hn hM rfl rfl rfl rfl rfl rfl rfl (c' := #[(.int .u64 c1.l0), (.int .u64 c1.l1), (.int .u64 c1.l2), (.int .u64 c1.l3), (.int .u64 c1.l4)]) (sets_row sz30 rfl rfl rfl) (fun w hM => ?_)
  replace hM : Mem _ _ w [⟨b1, #[(.int .u64 c1.l0), (.int .u64 c1.l1), (.int .u64 c1.l2), (.int .u64 c1.l3), (.int .u64 c1.l4)], 30, true⟩, ⟨b0, #[(.int .u64 0), (.int .u64 0), (.int .u64 0), (.int .u64 0), (.int .u64 0)], 30, true⟩] := hM
  refine T_nil ?_
  refine wp_seq ?_
  refine R_any [.val, .val, .val, .val, .val] 5 [] [] hn hM rfl (by kernel_rfl) (by kernel_rfl) rfl rfl rfl ?_
  refine E_val 4 rfl rfl rfl rfl (v := (.agg #[(.int .u64 c1.l0), (.int .u64 c1.l1), (.int .u64 c1.l2), (.int .u64 c1.l3), (.int .u64 c1.l4)])) (g_loadRow 0 [(.int .u64 c1.l0), (.int .u64 c1.l1), (.int .u64 c1.l2), (.int .u64 c1.l3), (.int .u64 c1.l4)] rfl rfl rfl Tryd.underlying30 rfl sz30 rfl) ?_
  refine E_call 5 rfl rfl rfl rfl (v := (.bool (((pw (toF 2) ((Num.P - 1) / 4))).val % 2 == 1))) (g_call (odd_E hc1) rfl rfl rfl Tryd.func44 nm44 bd44) ?_
  refine E_val 6 rfl rfl rfl rfl (v := (.agg #[(.int .u64 c1.l0), (.int .u64 c1.l1), (.int .u64 c1.l2), (.int .u64 c1.l3), (.int .u64 c1.l4)])) (g_loadRow 0 [(.int .u64 c1.l0), (.int .u64 c1.l1), (.int .u64 c1.l2), (.int .u64 c1.l3), (.int .u64 c1.l4)] rfl rfl rfl Tryd.underlying30 rfl sz30 rfl) ?_
  refine E_call 7 rfl rfl rfl rfl (v := c2.v) (g_call pc2 rfl rfl rfl Tryd.func38 nm38 bd38) ?_
  refine E_val 8 rfl rfl rfl rfl (v := (.agg #[(.int .u64 c1.l0), (.int .u64 c1.l1), (.int .u64 c1.l2), (.int .u64 c1.l3), (.int .u64 c1.l4)])) (g_loadRow 0 [(.int .u64 c1.l0), (.int .u64 c1.l1), (.int .u64 c1.l2), (.int .u64 c1.l3), (.int .u64 c1.l4)] rfl rfl rfl Tryd.underlying30 rfl sz30 rfl) ?_
  refine E_nil ?_
  refine ⟨?_, fun β1 w hM => ?_⟩
  · skip
    refine M_val rfl ?_
    refine M_val rfl ?_
    refine M_val rfl ?_
    refine M_val rfl ?_
    refine M_val rfl ?_
    exact M_nil
  show wpList _ _ _ (_ :: _) (putAll _ (_)) _
  refine T_call 9 hn hM rfl rfl rfl (v := c3.v) (g_call pc3 rfl rfl rfl Tryd.func55 nm55 bd55) (fun w hM => ?_)
  refine T_store 1 hn hM rfl rfl rfl rfl rfl rfl rfl (c' := #[(.int .u64 c3.l0), (.int .u64 c3.l1), (.int .u64 c3.l2), (.int .u64 c3.l3), (.int .u64 c3.l4)]) (sets_row sz30 rfl rfl rfl) (fun w hM => ?_)
  replace hM : Mem _ _ w [⟨b1, #[(.int .u64 c1.l0), (.int .u64 c1.l1), (.int .u64 c1.l2), (.int .u64 c1.l3), (.int .u64 c1.l4)], 30, true⟩, ⟨b0, #[(.int .u64 c3.l0), (.int .u64 c3.l1), (.int .u64 c3.l2), (.int .u64 c3.l3), (.int .u64 c3.l4)], 30, true⟩] := hM
  refine T_nil ?_
  refine wp_ret ?_
  refine leave (.inl rfl) hn hdf hM rfl Tryd.results64 (vs := [(.agg #[(.int .u64 c3.l0), (.int .u64 c3.l1), (.int .u64 c3.l2), (.int .u64 c3.l3), (.int .u64 c3.l4)])]) (.row 1 rfl rfl Tryd.underlying30 rfl sz30 .nil) ?_
  exact ⟨rfl, hM.done⟩

end Go.Proofs.YtbonnnakebfniaaDoor
