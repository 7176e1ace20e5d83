/- field: Root. -/
import Derived.Test.YtbonnnakebfniaaDoorWf
namespace Go.Proofs.YtbonnnakebfniaaDoor
open Go Go.RowKit Num Mx


theorem nm10 : (Tryd.f10.name == "runtime.NumGoroutine") = false := by kernel_rfl
theorem bd10 : Tryd.f10.body.isNone = false := by kernel_rfl
theorem nm45 : (Tryd.f45.name == "runtime.NumGoroutine") = false := by kernel_rfl
theorem bd45 : Tryd.f45.body.isNone = false := by kernel_rfl
theorem nm63 : (Tryd.f63.name == "runtime.NumGoroutine") = false := by kernel_rfl
theorem bd63 : Tryd.f63.body.isNone = false := by kernel_rfl

set_option maxHeartbeats 1000000 in
set_option maxRecDepth 100000 in
theorem root0_E {u v : El} {fu fv : F} (hu : IsL u fu) (hv : IsL v fv) (hs0 : ((((fu * ((fv * fv) * fv)) * (pw (fu * ((((fv * fv) * fv) * ((fv * fv) * fv)) * fv)) ((Num.P - 5) / 8))) * ((fu * ((fv * fv) * fv)) * (pw (fu * ((((fv * fv) * fv) * ((fv * fv) * fv)) * fv)) ((Num.P - 5) / 8)))) * fv) = fu) : ∃ c : El, IsL c (if (((fu * ((fv * fv) * fv)) * (pw (fu * ((((fv * fv) * fv) * ((fv * fv) * fv)) * fv)) ((Num.P - 5) / 8)))).val % 2 == 1 then (0 - ((fu * ((fv * fv) * fv)) * (pw (fu * ((((fv * fv) * fv) * ((fv * fv) * fv)) * fv)) ((Num.P - 5) / 8)))) else ((fu * ((fv * fv) * fv)) * (pw (fu * ((((fv * fv) * fv) * ((fv * fv) * fv)) * fv)) ((Num.P - 5) / 8)))) ∧ Pure 56 #[u.v, v.v] (.tuple #[c.v, (.bool true)]) := by
  obtain ⟨c1, hc1, pc1⟩ := sq_E hv
  obtain ⟨c2, hc2, pc2⟩ := mul_E hc1 hv
  obtain ⟨c3, hc3, pc3⟩ := sq_E hc2
  obtain ⟨c4, hc4, pc4⟩ := mul_E hc3 hv
  obtain ⟨c5, hc5, pc5⟩ := mul_E hu hc2
  obtain ⟨c6, hc6, pc6⟩ := mul_E hu hc4
  obtain ⟨c7, hc7, pc7⟩ := pow24_E hc6
  obtain ⟨c8, hc8, pc8⟩ := mul_E hc5 hc7
  obtain ⟨c9, hc9, pc9⟩ := sq_E hc8
  obtain ⟨c10, hc10, pc10⟩ := mul_E hc9 hv
  have ps11 := same_E hc10 hu
  rw [decide_eq_true hs0] at ps11
  obtain ⟨c12, hc12, pc12⟩ := neg_E hc8
  obtain ⟨c13, hc13⟩ : ∃ c : El, c = if (((fu * ((fv * fv) * fv)) * (pw (fu * ((((fv * fv) * fv) * ((fv * fv) * fv)) * fv)) ((Num.P - 5) / 8)))).val % 2 == 1 then c12 else c8 := ⟨_, rfl⟩
  have pc13 := choose_E ((((fu * ((fv * fv) * fv)) * (pw (fu * ((((fv * fv) * fv) * ((fv * fv) * fv)) * fv)) ((Num.P - 5) / 8)))).val % 2 == 1) c12 c8
  rw [← hc13] at pc13
  refine ⟨c13, (is_choose hc12 hc8 hc13), fun w => ?_⟩
  refine enter Tryd.func56 rfl Tryd.ntmps56 (Nat.le_of_ble_eq_true rfl) fun A hn hdf => ?_
  have hM : Mem w [] w [] := Mem.start w
  replace hM := hM
  refine wp_seq ?_
  refine wp_region_lit ?_
  refine T_box 2 hn hM rfl rfl rfl rfl rfl #[(.int .u64 u.l0), (.int .u64 u.l1), (.int .u64 u.l2), (.int .u64 u.l3), (.int .u64 u.l4)] rfl (fun b0 w hM => ?_)
  refine T_box 3 hn hM rfl rfl rfl rfl rfl #[(.int .u64 v.l0), (.int .u64 v.l1), (.int .u64 v.l2), (.int .u64 v.l3), (.int .u64 v.l4)] rfl (fun b1 w hM => ?_)
  refine T_alloc 4 hn hM rfl rfl rfl rfl Tryd.zeroValue30 #[(.int .u64 0), (.int .u64 0), (.int .u64 0), (.int .u64 0), (.int .u64 0)] rfl (fun b2 w hM => ?_)
  refine T_val 5 hn hM rfl rfl rfl (v := (.bool false)) (g_assign rfl rfl) ?_
  refine T_nil ?_
  refine wp_seq ?_
  refine R_any [.val, .val, .val, .val, .alloc] 5 [⟨4, #[(.int .u64 0), (.int .u64 0), (.int .u64 0), (.int .u64 0), (.int .u64 0)], #[(.int .u64 0), (.int .u64 0), (.int .u64 0), (.int .u64 0), (.int .u64 0)], 30⟩] [(4, 6)] hn hM rfl (by kernel_rfl) (by kernel_rfl) rfl rfl rfl ?_
  refine E_val 10 rfl rfl rfl rfl (v := (.agg #[(.int .u64 v.l0), (.int .u64 v.l1), (.int .u64 v.l2), (.int .u64 v.l3), (.int .u64 v.l4)])) (g_loadRow 1 [(.int .u64 v.l0), (.int .u64 v.l1), (.int .u64 v.l2), (.int .u64 v.l3), (.int .u64 v.l4)] rfl rfl rfl Tryd.underlying30 rfl sz30 rfl) ?_
  refine E_call 11 rfl rfl rfl rfl (v := c1.v) (g_call pc1 rfl rfl rfl Tryd.func45 nm45 bd45) ?_
  refine E_val 12 rfl rfl rfl rfl (v := (.agg #[(.int .u64 v.l0), (.int .u64 v.l1), (.int .u64 v.l2), (.int .u64 v.l3), (.int .u64 v.l4)])) (g_loadRow 1 [(.int .u64 v.l0), (.int .u64 v.l1), (.int .u64 v.l2), (.int .u64 v.l3), (.int .u64 v.l4)] rfl rfl rfl Tryd.underlying30 rfl sz30 rfl) ?_
  refine E_call 13 rfl rfl rfl rfl (v := c2.v) (g_call pc2 rfl rfl rfl Tryd.func10 nm10 bd10) ?_
  refine E_skip rfl ?_
  refine E_nil ?_
  refine ⟨?_, fun β1 w hM => ?_⟩
  · skip
    refine M_val rfl ?_
    refine M_val rfl ?_
    refine M_val rfl ?_
    refine M_val rfl ?_
    refine M_alloc rfl rfl (runs_alloc rfl Tryd.zeroValue30 rfl) ?_
    exact M_nil
  replace hM : Mem _ _ w [⟨(β1 4), #[(.int .u64 0), (.int .u64 0), (.int .u64 0), (.int .u64 0), (.int .u64 0)], 30, true⟩, ⟨b2, #[(.int .u64 0), (.int .u64 0), (.int .u64 0), (.int .u64 0), (.int .u64 0)], 30, true⟩, ⟨b1, #[(.int .u64 v.l0), (.int .u64 v.l1), (.int .u64 v.l2), (.int .u64 v.l3), (.int .u64 v.l4)], 30, true⟩, ⟨b0, #[(.int .u64 u.l0), (.int .u64 u.l1), (.int .u64 u.l2), (.int .u64 u.l3), (.int .u64 u.l4)], 30, true⟩] := hM
  show wpList _ _ _ (_ :: _) (putAll _ ((6, _) :: _)) _
  refine T_store 0 hn hM rfl rfl rfl rfl rfl rfl rfl (c' := #[(.int .u64 c2.l0), (.int .u64 c2.l1), (.int .u64 c2.l2), (.int .u64 c2.l3), (.int .u64 c2.l4)]) (sets_row sz30 rfl rfl rfl) (fun w hM => ?_)
  replace hM : Mem _ _ w [⟨(β1 4), #[(.int .u64 c2.l0), (.int .u64 c2.l1), (.int .u64 c2.l2), (.int .u64 c2.l3), (.int .u64 c2.l4)], 30, true⟩, ⟨b2, #[(.int .u64 0), (.int .u64 0), (.int .u64 0), (.int .u64 0), (.int .u64 0)], 30, true⟩, ⟨b1, #[(.int .u64 v.l0), (.int .u64 v.l1), (.int .u64 v.l2), (.int .u64 v.l3), (.int .u64 v.l4)], 30, true⟩, ⟨b0, #[(.int .u64 u.l0), (.int .u64 u.l1), (.int .u64 u.l2), (.int .u64 u.l3), (.int .u64 u.l4)], 30, true⟩] := hM
  refine T_nil ?_
  refine wp_seq ?_
  refine R_any [.val, .val, .val, .val, .alloc] 5 [⟨4, #[(.int .u64 0), (.int .u64 0), (.int .u64 0), (.int .u64 0), (.int .u64 0)], #[(.int .u64 0), (.int .u64 0), (.int .u64 0), (.int .u64 0), (.int .u64 0)], 30⟩] [(4, 7)] hn hM rfl (by kernel_rfl) (by kernel_rfl) rfl rfl rfl ?_
  refine E_val 14 rfl rfl rfl rfl (v := (.agg #[(.int .u64 c2.l0), (.int .u64 c2.l1), (.int .u64 c2.l2), (.int .u64 c2.l3), (.int .u64 c2.l4)])) (g_loadRow 0 [(.int .u64 c2.l0), (.int .u64 c2.l1), (.int .u64 c2.l2), (.int .u64 c2.l3), (.int .u64 c2.l4)] rfl rfl rfl Tryd.underlying30 rfl sz30 rfl) ?_
  refine E_call 15 rfl rfl rfl rfl (v := c3.v) (g_call pc3 rfl rfl rfl Tryd.func45 nm45 bd45) ?_
  refine E_val 16 rfl rfl rfl rfl (v := (.agg #[(.int .u64 v.l0), (.int .u64 v.l1), (.int .u64 v.l2), (.int .u64 v.l3), (.int .u64 v.l4)])) (g_loadRow 2 [(.int .u64 v.l0), (.int .u64 v.l1), (.int .u64 v.l2), (.int .u64 v.l3), (.int .u64 v.l4)] rfl rfl rfl Tryd.underlying30 rfl sz30 rfl) ?_
  refine E_call 17 rfl rfl rfl rfl (v := c4.v) (g_call pc4 rfl rfl rfl Tryd.func10 nm10 bd10) ?_
  refine E_skip rfl ?_
  refine E_nil ?_
  refine ⟨?_, fun β2 w hM => ?_⟩
  · skip
    refine M_val rfl ?_
    refine M_val rfl ?_
    refine M_val rfl ?_
    refine M_val rfl ?_
    refine M_alloc rfl rfl (runs_alloc rfl Tryd.zeroValue30 rfl) ?_
    exact M_nil
  replace hM : Mem _ _ w [⟨(β2 4), #[(.int .u64 0), (.int .u64 0), (.int .u64 0), (.int .u64 0), (.int .u64 0)], 30, true⟩, ⟨(β1 4), #[(.int .u64 c2.l0), (.int .u64 c2.l1), (.int .u64 c2.l2), (.int .u64 c2.l3), (.int .u64 c2.l4)], 30, true⟩, ⟨b2, #[(.int .u64 0), (.int .u64 0), (.int .u64 0), (.int .u64 0), (.int .u64 0)], 30, true⟩, ⟨b1, #[(.int .u64 v.l0), (.int .u64 v.l1), (.int .u64 v.l2), (.int .u64 v.l3), (.int .u64 v.l4)], 30, true⟩, ⟨b0, #[(.int .u64 u.l0), (.int .u64 u.l1), (.int .u64 u.l2), (.int .u64 u.l3), (.int .u64 u.l4)], 30, true⟩] := hM
  show wpList _ _ _ (_ :: _) (putAll _ ((7, _) :: _)) _
  refine T_store 0 hn hM rfl rfl rfl rfl rfl rfl rfl (c' := #[(.int .u64 c4.l0), (.int .u64 c4.l1), (.int .u64 c4.l2), (.int .u64 c4.l3), (.int .u64 c4.l4)]) (sets_row sz30 rfl rfl rfl) (fun w hM => ?_)
  replace hM : Mem _ _ w [⟨(β2 4), #[(.int .u64 c4.l0), (.int .u64 c4.l1), (.int .u64 c4.l2), (.int .u64 c4.l3), (.int .u64 c4.l4)], 30, true⟩, ⟨(β1 4), #[(.int .u64 c2.l0), (.int .u64 c2.l1), (.int .u64 c2.l2), (.int .u64 c2.l3), (.int .u64 c2.l4)], 30, true⟩, ⟨b2, #[(.int .u64 0), (.int .u64 0), (.int .u64 0), (.int .u64 0), (.int .u64 0)], 30, true⟩, ⟨b1, #[(.int .u64 v.l0), (.int .u64 v.l1), (.int .u64 v.l2), (.int .u64 v.l3), (.int .u64 v.l4)], 30, true⟩, ⟨b0, #[(.int .u64 u.l0), (.int .u64 u.l1), (.int .u64 u.l2), (.int .u64 u.l3), (.int .u64 u.l4)], 30, true⟩] := hM
  refine T_nil ?_
  refine wp_seq ?_
  refine R_any [.val, .val, .val, .val, .val, .val, .val, .val, .alloc] 9 [⟨8, #[(.int .u64 0), (.int .u64 0), (.int .u64 0), (.int .u64 0), (.int .u64 0)], #[(.int .u64 0), (.int .u64 0), (.int .u64 0), (.int .u64 0), (.int .u64 0)], 30⟩] [(8, 8)] hn hM rfl (by kernel_rfl) (by kernel_rfl) rfl rfl rfl ?_
  refine E_val 18 rfl rfl rfl rfl (v := (.agg #[(.int .u64 u.l0), (.int .u64 u.l1), (.int .u64 u.l2), (.int .u64 u.l3), (.int .u64 u.l4)])) (g_loadRow 4 [(.int .u64 u.l0), (.int .u64 u.l1), (.int .u64 u.l2), (.int .u64 u.l3), (.int .u64 u.l4)] rfl rfl rfl Tryd.underlying30 rfl sz30 rfl) ?_
  refine E_val 19 rfl rfl rfl rfl (v := (.agg #[(.int .u64 c2.l0), (.int .u64 c2.l1), (.int .u64 c2.l2), (.int .u64 c2.l3), (.int .u64 c2.l4)])) (g_loadRow 1 [(.int .u64 c2.l0), (.int .u64 c2.l1), (.int .u64 c2.l2), (.int .u64 c2.l3), (.int .u64 c2.l4)] rfl rfl rfl Tryd.underlying30 rfl sz30 rfl) ?_
  refine E_call 20 rfl rfl rfl rfl (v := c5.v) (g_call pc5 rfl rfl rfl Tryd.func10 nm10 bd10) ?_
  refine E_val 21 rfl rfl rfl rfl (v := (.agg #[(.int .u64 u.l0), (.int .u64 u.l1), (.int .u64 u.l2), (.int .u64 u.l3), (.int .u64 u.l4)])) (g_loadRow 4 [(.int .u64 u.l0), (.int .u64 u.l1), (.int .u64 u.l2), (.int .u64 u.l3), (.int .u64 u.l4)] rfl rfl rfl Tryd.underlying30 rfl sz30 rfl) ?_
  refine E_val 22 rfl rfl rfl rfl (v := (.agg #[(.int .u64 c4.l0), (.int .u64 c4.l1), (.int .u64 c4.l2), (.int .u64 c4.l3), (.int .u64 c4.l4)])) (g_loadRow 0 [(.int .u64 c4.l0), (.int .u64 c4.l1), (.int .u64 c4.l2), (.int .u64 c4.l3), (.int .u64 c4.l4)] rfl rfl rfl Tryd.underlying30 rfl sz30 rfl) ?_
  refine E_call 23 rfl rfl rfl rfl (v := c6.v) (g_call pc6 rfl rfl rfl Tryd.func10 nm10 bd10) ?_
  refine E_call 24 rfl rfl rfl rfl (v := c7.v) (g_call pc7 rfl rfl rfl Tryd.func27 nm27 bd27) ?_
  refine E_call 25 rfl rfl rfl rfl (v := c8.v) (g_call pc8 rfl rfl rfl Tryd.func10 nm10 bd10) ?_
  refine E_skip rfl ?_
  refine E_nil ?_
  refine ⟨?_, fun β3 w hM => ?_⟩
  · skip
    refine M_val rfl ?_
    refine M_val rfl ?_
    refine M_val rfl ?_
    refine M_val rfl ?_
    refine M_val rfl ?_
    refine M_val rfl ?_
    refine M_val rfl ?_
    refine M_val rfl ?_
    refine M_alloc rfl rfl (runs_alloc rfl Tryd.zeroValue30 rfl) ?_
    exact M_nil
  replace hM : Mem _ _ w [⟨(β3 8), #[(.int .u64 0), (.int .u64 0), (.int .u64 0), (.int .u64 0), (.int .u64 0)], 30, true⟩, ⟨(β2 4), #[(.int .u64 c4.l0), (.int .u64 c4.l1), (.int .u64 c4.l2), (.int .u64 c4.l3), (.int .u64 c4.l4)], 30, true⟩, ⟨(β1 4), #[(.int .u64 c2.l0), (.int .u64 c2.l1), (.int .u64 c2.l2), (.int .u64 c2.l3), (.int .u64 c2.l4)], 30, true⟩, ⟨b2, #[(.int .u64 0), (.int .u64 0), (.int .u64 0), (.int .u64 0), (.int .u64 0)], 30, true⟩, ⟨b1, #[(.int .u64 v.l0), (.int .u64 v.l1), (.int .u64 v.l2), (.int .u64 v.l3), (.int .u64 v.l4)], 30, true⟩, ⟨b0, #[(.int .u64 u.l0), (.int .u64 u.l1), (.int .u64 u.l2), (.int .u64 u.l3), (.int .u64 u.l4)], 30, true⟩] := hM
  show wpList _ _ _ (_ :: _) (putAll _ ((8, _) :: _)) _
  refine T_store 0 hn hM rfl rfl rfl rfl rfl rfl rfl (c' := #[(.int .u64 c8.l0), (.int .u64 c8.l1), (.int .u64 c8.l2), (.int .u64 c8.l3), (.int .u64 c8.l4)]) (sets_row sz30 rfl rfl rfl) (fun w hM => ?_)
  replace hM : Mem _ _ w [⟨(β3 8), #[(.int .u64 c8.l0), (.int .u64 c8.l1), (.int .u64 c8.l2), (.int .u64 c8.l3), (.int .u64 c8.l4)], 30, true⟩, ⟨(β2 4), #[(.int .u64 c4.l0), (.int .u64 c4.l1), (.int .u64 c4.l2), (.int .u64 c4.l3), (.int .u64 c4.l4)], 30, true⟩, ⟨(β1 4), #[(.int .u64 c2.l0), (.int .u64 c2.l1), (.int .u64 c2.l2), (.int .u64 c2.l3), (.int .u64 c2.l4)], 30, true⟩, ⟨b2, #[(.int .u64 0), (.int .u64 0), (.int .u64 0), (.int .u64 0), (.int .u64 0)], 30, true⟩, ⟨b1, #[(.int .u64 v.l0), (.int .u64 v.l1), (.int .u64 v.l2), (.int .u64 v.l3), (.int .u64 v.l4)], 30, true⟩, ⟨b0, #[(.int .u64 u.l0), (.int .u64 u.l1), (.int .u64 u.l2), (.int .u64 u.l3), (.int .u64 u.l4)], 30, true⟩] := hM
  refine T_nil ?_
  refine wp_seq ?_
  refine wp_seq ?_
  refine R_any [.val, .val, .val, .val, .alloc] 5 [⟨4, #[(.int .u64 0), (.int .u64 0), (.int .u64 0), (.int .u64 0), (.int .u64 0)], #[(.int .u64 0), (.int .u64 0), (.int .u64 0), (.int .u64 0), (.int .u64 0)], 30⟩] [(4, 9)] hn hM rfl (by kernel_rfl) (by kernel_rfl) rfl rfl rfl ?_
  refine E_val 26 rfl rfl rfl rfl (v := (.agg #[(.int .u64 c8.l0), (.int .u64 c8.l1), (.int .u64 c8.l2), (.int .u64 c8.l3), (.int .u64 c8.l4)])) (g_loadRow 0 [(.int .u64 c8.l0), (.int .u64 c8.l1), (.int .u64 c8.l2), (.int .u64 c8.l3), (.int .u64 c8.l4)] rfl rfl rfl Tryd.underlying30 rfl sz30 rfl) ?_
  refine E_call 27 rfl rfl rfl rfl (v := c9.v) (g_call pc9 rfl rfl rfl Tryd.func45 nm45 bd45) ?_
  refine E_val 28 rfl rfl rfl rfl (v := (.agg #[(.int .u64 v.l0), (.int .u64 v.l1), (.int .u64 v.l2), (.int .u64 v.l3), (.int .u64 v.l4)])) (g_loadRow 4 [(.int .u64 v.l0), (.int .u64 v.l1), (.int .u64 v.l2), (.int .u64 v.l3), (.int .u64 v.l4)] rfl rfl rfl Tryd.underlying30 rfl sz30 rfl) ?_
  refine E_call 29 rfl rfl rfl rfl (v := c10.v) (g_call pc10 rfl rfl rfl Tryd.func10 nm10 bd10) ?_
  refine E_skip rfl ?_
  refine E_nil ?_
  refine ⟨?_, fun β4 w hM => ?_⟩
  · skip
    refine M_val rfl ?_
    refine M_val rfl ?_
    refine M_val rfl ?_
    refine M_val rfl ?_
    refine M_alloc rfl rfl (runs_alloc rfl Tryd.zeroValue30 rfl) ?_
    exact M_nil
  replace hM : Mem _ _ w [⟨(β4 4), #[(.int .u64 0), (.int .u64 0), (.int .u64 0), (.int .u64 0), (.int .u64 0)], 30, true⟩, ⟨(β3 8), #[(.int .u64 c8.l0), (.int .u64 c8.l1), (.int .u64 c8.l2), (.int .u64 c8.l3), (.int .u64 c8.l4)], 30, true⟩, ⟨(β2 4), #[(.int .u64 c4.l0), (.int .u64 c4.l1), (.int .u64 c4.l2), (.int .u64 c4.l3), (.int .u64 c4.l4)], 30, true⟩, ⟨(β1 4), #[(.int .u64 c2.l0), (.int .u64 c2.l1), (.int .u64 c2.l2), (.int .u64 c2.l3), (.int .u64 c2.l4)], 30, true⟩, ⟨b2, #[(.int .u64 0), (.int .u64 0), (.int .u64 0), (.int .u64 0), (.int .u64 0)], 30, true⟩, ⟨b1, #[(.int .u64 v.l0), (.int .u64 v.l1), (.int .u64 v.l2), (.int .u64 v.l3), (.int .u64 v.l4)], 30, true⟩, ⟨b0, #[(.int .u64 u.l0), (.int .u64 u.l1), (.int .u64 u.l2), (.int .u64 u.l3), (.int .u64 u.l4)], 30, true⟩] := hM
  show wpList _ _ _ (_ :: _) (putAll _ ((9, _) :: _)) _
  refine T_store 0 hn hM rfl rfl rfl rfl rfl rfl rfl (c' := #[(.int .u64 c10.l0), (.int .u64 c10.l1), (.int .u64 c10.l2), (.int .u64 c10.l3), (.int .u64 c10.l4)]) (sets_row sz30 rfl rfl rfl) (fun w hM => ?_)
  replace hM : Mem _ _ w [⟨(β4 4), #[(.int .u64 c10.l0), (.int .u64 c10.l1), (.int .u64 c10.l2), (.int .u64 c10.l3), (.int .u64 c10.l4)], 30, true⟩, ⟨(β3 8), #[(.int .u64 c8.l0), (.int .u64 c8.l1), (.int .u64 c8.l2), (.int .u64 c8.l3), (.int .u64 c8.l4)], 30, true⟩, ⟨(β2 4), #[(.int .u64 c4.l0), (.int .u64 c4.l1), (.int .u64 c4.l2), (.int .u64 c4.l3), (.int .u64 c4.l4)], 30, true⟩, ⟨(β1 4), #[(.int .u64 c2.l0), (.int .u64 c2.l1), (.int .u64 c2.l2), (.int .u64 c2.l3), (.int .u64 c2.l4)], 30, true⟩, ⟨b2, #[(.int .u64 0), (.int .u64 0), (.int .u64 0), (.int .u64 0), (.int .u64 0)], 30, true⟩, ⟨b1, #[(.int .u64 v.l0), (.int .u64 v.l1), (.int .u64 v.l2), (.int .u64 v.l3), (.int .u64 v.l4)], 30, true⟩, ⟨b0, #[(.int .u64 u.l0), (.int .u64 u.l1), (.int .u64 u.l2), (.int .u64 u.l3), (.int .u64 u.l4)], 30, true⟩] := hM
  refine T_nil ?_
  refine wp_block ?_
  refine wp_seq ?_
  refine wp_region_lit ?_
  refine T_val 32 hn hM rfl rfl rfl (v := (.agg #[(.int .u64 c10.l0), (.int .u64 c10.l1), (.int .u64 c10.l2), (.int .u64 c10.l3), (.int .u64 c10.l4)])) (g_loadRow 0 [(.int .u64 c10.l0), (.int .u64 c10.l1), (.int .u64 c10.l2), (.int .u64 c10.l3), (.int .u64 c10.l4)] rfl rfl rfl Tryd.underlying30 rfl sz30 rfl) ?_
  refine T_val 33 hn hM rfl rfl rfl (v := (.agg #[(.int .u64 u.l0), (.int .u64 u.l1), (.int .u64 u.l2), (.int .u64 u.l3), (.int .u64 u.l4)])) (g_loadRow 6 [(.int .u64 u.l0), (.int .u64 u.l1), (.int .u64 u.l2), (.int .u64 u.l3), (.int .u64 u.l4)] rfl rfl rfl Tryd.underlying30 rfl sz30 rfl) ?_
  refine T_call 34 hn hM rfl rfl rfl (v := (.bool true)) (g_call ps11 rfl rfl rfl Tryd.func63 nm63 bd63) (fun w hM => ?_)
  refine T_val 31 hn hM rfl rfl rfl (v := (.bool true)) (g_assign rfl rfl) ?_
  refine T_nil ?_
  refine C_condT hn rfl rfl ?_
  refine wp_skip ?_
  refine x_norm ?_
  refine x_next ?_
  refine wp_seq ?_
  refine R_any [.val, .val, .val, .val, .val] 5 [] [] hn hM rfl (by kernel_rfl) (by kernel_rfl) rfl rfl rfl ?_
  refine E_val 43 rfl rfl rfl rfl (v := (.agg #[(.int .u64 c8.l0), (.int .u64 c8.l1), (.int .u64 c8.l2), (.int .u64 c8.l3), (.int .u64 c8.l4)])) (g_loadRow 1 [(.int .u64 c8.l0), (.int .u64 c8.l1), (.int .u64 c8.l2), (.int .u64 c8.l3), (.int .u64 c8.l4)] rfl rfl rfl Tryd.underlying30 rfl sz30 rfl) ?_
  refine E_call 44 rfl rfl rfl rfl (v := (.bool ((((fu * ((fv * fv) * fv)) * (pw (fu * ((((fv * fv) * fv) * ((fv * fv) * fv)) * fv)) ((Num.P - 5) / 8)))).val % 2 == 1))) (g_call (odd_E hc8) rfl rfl rfl Tryd.func44 nm44 bd44) ?_
  refine E_val 45 rfl rfl rfl rfl (v := (.agg #[(.int .u64 c8.l0), (.int .u64 c8.l1), (.int .u64 c8.l2), (.int .u64 c8.l3), (.int .u64 c8.l4)])) (g_loadRow 1 [(.int .u64 c8.l0), (.int .u64 c8.l1), (.int .u64 c8.l2), (.int .u64 c8.l3), (.int .u64 c8.l4)] rfl rfl rfl Tryd.underlying30 rfl sz30 rfl) ?_
  refine E_call 46 rfl rfl rfl rfl (v := c12.v) (g_call pc12 rfl rfl rfl Tryd.func38 nm38 bd38) ?_
  refine E_val 47 rfl rfl rfl rfl (v := (.agg #[(.int .u64 c8.l0), (.int .u64 c8.l1), (.int .u64 c8.l2), (.int .u64 c8.l3), (.int .u64 c8.l4)])) (g_loadRow 1 [(.int .u64 c8.l0), (.int .u64 c8.l1), (.int .u64 c8.l2), (.int .u64 c8.l3), (.int .u64 c8.l4)] rfl rfl rfl Tryd.underlying30 rfl sz30 rfl) ?_
  refine E_nil ?_
  refine ⟨?_, fun β5 w hM => ?_⟩
  · skip
    refine M_val rfl ?_
    refine M_val rfl ?_
    refine M_val rfl ?_
    refine M_val rfl ?_
    refine M_val rfl ?_
    exact M_nil
  show wpList _ _ _ (_ :: _) (putAll _ (_)) _
  refine T_call 48 hn hM rfl rfl rfl (v := c13.v) (g_call pc13 rfl rfl rfl Tryd.func55 nm55 bd55) (fun w hM => ?_)
  refine T_store 4 hn hM rfl rfl rfl rfl rfl rfl rfl (c' := #[(.int .u64 c13.l0), (.int .u64 c13.l1), (.int .u64 c13.l2), (.int .u64 c13.l3), (.int .u64 c13.l4)]) (sets_row sz30 rfl rfl rfl) (fun w hM => ?_)
  replace hM : Mem _ _ w [⟨(β4 4), #[(.int .u64 c10.l0), (.int .u64 c10.l1), (.int .u64 c10.l2), (.int .u64 c10.l3), (.int .u64 c10.l4)], 30, true⟩, ⟨(β3 8), #[(.int .u64 c8.l0), (.int .u64 c8.l1), (.int .u64 c8.l2), (.int .u64 c8.l3), (.int .u64 c8.l4)], 30, true⟩, ⟨(β2 4), #[(.int .u64 c4.l0), (.int .u64 c4.l1), (.int .u64 c4.l2), (.int .u64 c4.l3), (.int .u64 c4.l4)], 30, true⟩, ⟨(β1 4), #[(.int .u64 c2.l0), (.int .u64 c2.l1), (.int .u64 c2.l2), (.int .u64 c2.l3), (.int .u64 c2.l4)], 30, true⟩, ⟨b2, #[(.int .u64 c13.l0), (.int .u64 c13.l1), (.int .u64 c13.l2), (.int .u64 c13.l3), (.int .u64 c13.l4)], 30, true⟩, ⟨b1, #[(.int .u64 v.l0), (.int .u64 v.l1), (.int .u64 v.l2), (.int .u64 v.l3), (.int .u64 v.l4)], 30, true⟩, ⟨b0, #[(.int .u64 u.l0), (.int .u64 u.l1), (.int .u64 u.l2), (.int .u64 u.l3), (.int .u64 u.l4)], 30, true⟩] := hM
  refine T_val 5 hn hM rfl rfl rfl (v := (.bool true)) (g_assign rfl rfl) ?_
  refine T_nil ?_
  refine wp_ret ?_
  refine leave (.inl rfl) hn hdf hM rfl Tryd.results56 (vs := [(.agg #[(.int .u64 c13.l0), (.int .u64 c13.l1), (.int .u64 c13.l2), (.int .u64 c13.l3), (.int .u64 c13.l4)]), (.bool true)]) (.row 4 rfl rfl Tryd.underlying30 rfl sz30 (.tmp 5 rfl .nil)) ?_
  exact ⟨rfl, hM.done⟩

theorem nm64 : (Tryd.f64.name == "runtime.NumGoroutine") = false := by kernel_rfl
theorem bd64 : Tryd.f64.body.isNone = false := by kernel_rfl

set_option maxHeartbeats 1000000 in
set_option maxRecDepth 100000 in
theorem root1_E {u v : El} {fu fv : F} (hu : IsL u fu) (hv : IsL v fv) (hs0 : ((((fu * ((fv * fv) * fv)) * (pw (fu * ((((fv * fv) * fv) * ((fv * fv) * fv)) * fv)) ((Num.P - 5) / 8))) * ((fu * ((fv * fv) * fv)) * (pw (fu * ((((fv * fv) * fv) * ((fv * fv) * fv)) * fv)) ((Num.P - 5) / 8)))) * fv) ≠ fu) (hs1 : ((((fu * ((fv * fv) * fv)) * (pw (fu * ((((fv * fv) * fv) * ((fv * fv) * fv)) * fv)) ((Num.P - 5) / 8))) * ((fu * ((fv * fv) * fv)) * (pw (fu * ((((fv * fv) * fv) * ((fv * fv) * fv)) * fv)) ((Num.P - 5) / 8)))) * fv) = (0 - fu)) : ∃ c : El, IsL c (if ((((fu * ((fv * fv) * fv)) * (pw (fu * ((((fv * fv) * fv) * ((fv * fv) * fv)) * fv)) ((Num.P - 5) / 8))) * (if ((pw (toF 2) ((Num.P - 1) / 4))).val % 2 == 1 then (0 - (pw (toF 2) ((Num.P - 1) / 4))) else (pw (toF 2) ((Num.P - 1) / 4))))).val % 2 == 1 then (0 - (((fu * ((fv * fv) * fv)) * (pw (fu * ((((fv * fv) * fv) * ((fv * fv) * fv)) * fv)) ((Num.P - 5) / 8))) * (if ((pw (toF 2) ((Num.P - 1) / 4))).val % 2 == 1 then (0 - (pw (toF 2) ((Num.P - 1) / 4))) else (pw (toF 2) ((Num.P - 1) / 4))))) else (((fu * ((fv * fv) * fv)) * (pw (fu * ((((fv * fv) * fv) * ((fv * fv) * fv)) * fv)) ((Num.P - 5) / 8))) * (if ((pw (toF 2) ((Num.P - 1) / 4))).val % 2 == 1 then (0 - (pw (toF 2) ((Num.P - 1) / 4))) else (pw (toF 2) ((Num.P - 1) / 4))))) ∧ Pure 56 #[u.v, v.v] (.tuple #[c.v, (.bool true)]) := by
  obtain ⟨c1, hc1, pc1⟩ := sq_E hv
  obtain ⟨c2, hc2, pc2⟩ := mul_E hc1 hv
  obtain ⟨c3, hc3, pc3⟩ := sq_E hc2
  obtain ⟨c4, hc4, pc4⟩ := mul_E hc3 hv
  obtain ⟨c5, hc5, pc5⟩ := mul_E hu hc2
  obtain ⟨c6, hc6, pc6⟩ := mul_E hu hc4
  obtain ⟨c7, hc7, pc7⟩ := pow24_E hc6
  obtain ⟨c8, hc8, pc8⟩ := mul_E hc5 hc7
  obtain ⟨c9, hc9, pc9⟩ := sq_E hc8
  obtain ⟨c10, hc10, pc10⟩ := mul_E hc9 hv
  have ps11 := same_E hc10 hu
  rw [decide_eq_false hs0] at ps11
  obtain ⟨c12, hc12, pc12⟩ := neg_E hu
  have ps13 := same_E hc10 hc12
  rw [decide_eq_true hs1] at ps13
  obtain ⟨c14, hc14, pc14⟩ := minus1_E
  obtain ⟨c15, hc15, pc15⟩ := mul_E hc8 hc14
  obtain ⟨c16, hc16, pc16⟩ := neg_E hc15
  obtain ⟨c17, hc17⟩ : ∃ c : El, c = if ((((fu * ((fv * fv) * fv)) * (pw (fu * ((((fv * fv) * fv) * ((fv * fv) * fv)) * fv)) ((Num.P - 5) / 8))) * (if ((pw (toF 2) ((Num.P - 1) / 4))).val % 2 == 1 then (0 - (pw (toF 2) ((Num.P - 1) / 4))) else (pw (toF 2) ((Num.P - 1) / 4))))).val % 2 == 1 then c16 else c15 := ⟨_, rfl⟩
  have pc17 := choose_E (((((fu * ((fv * fv) * fv)) * (pw (fu * ((((fv * fv) * fv) * ((fv * fv) * fv)) * fv)) ((Num.P - 5) / 8))) * (if ((pw (toF 2) ((Num.P - 1) / 4))).val % 2 == 1 then (0 - (pw (toF 2) ((Num.P - 1) / 4))) else (pw (toF 2) ((Num.P - 1) / 4))))).val % 2 == 1) c16 c15
  rw [← hc17] at pc17
  refine ⟨c17, (is_choose hc16 hc15 hc17), fun w => ?_⟩
  refine enter Tryd.func56 rfl Tryd.ntmps56 (Nat.le_of_ble_eq_true rfl) fun A hn hdf => ?_
  have hM : Mem w [] w [] := Mem.start w
  replace hM := hM
  refine wp_seq ?_
  refine wp_region_lit ?_
  refine T_box 2 hn hM rfl rfl rfl rfl rfl #[(.int .u64 u.l0), (.int .u64 u.l1), (.int .u64 u.l2), (.int .u64 u.l3), (.int .u64 u.l4)] rfl (fun b0 w hM => ?_)
  refine T_box 3 hn hM rfl rfl rfl rfl rfl #[(.int .u64 v.l0), (.int .u64 v.l1), (.int .u64 v.l2), (.int .u64 v.l3), (.int .u64 v.l4)] rfl (fun b1 w hM => ?_)
  refine T_alloc 4 hn hM rfl rfl rfl rfl Tryd.zeroValue30 #[(.int .u64 0), (.int .u64 0), (.int .u64 0), (.int .u64 0), (.int .u64 0)] rfl (fun b2 w hM => ?_)
  refine T_val 5 hn hM rfl rfl rfl (v := (.bool false)) (g_assign rfl rfl) ?_
  refine T_nil ?_
  refine wp_seq ?_
  refine R_any [.val, .val, .val, .val, .alloc] 5 [⟨4, #[(.int .u64 0), (.int .u64 0), (.int .u64 0), (.int .u64 0), (.int .u64 0)], #[(.int .u64 0), (.int .u64 0), (.int .u64 0), (.int .u64 0), (.int .u64 0)], 30⟩] [(4, 6)] hn hM rfl (by kernel_rfl) (by kernel_rfl) rfl rfl rfl ?_
  refine E_val 10 rfl rfl rfl rfl (v := (.agg #[(.int .u64 v.l0), (.int .u64 v.l1), (.int .u64 v.l2), (.int .u64 v.l3), (.int .u64 v.l4)])) (g_loadRow 1 [(.int .u64 v.l0), (.int .u64 v.l1), (.int .u64 v.l2), (.int .u64 v.l3), (.int .u64 v.l4)] rfl rfl rfl Tryd.underlying30 rfl sz30 rfl) ?_
  refine E_call 11 rfl rfl rfl rfl (v := c1.v) (g_call pc1 rfl rfl rfl Tryd.func45 nm45 bd45) ?_
  refine E_val 12 rfl rfl rfl rfl (v := (.agg #[(.int .u64 v.l0), (.int .u64 v.l1), (.int .u64 v.l2), (.int .u64 v.l3), (.int .u64 v.l4)])) (g_loadRow 1 [(.int .u64 v.l0), (.int .u64 v.l1), (.int .u64 v.l2), (.int .u64 v.l3), (.int .u64 v.l4)] rfl rfl rfl Tryd.underlying30 rfl sz30 rfl) ?_
  refine E_call 13 rfl rfl rfl rfl (v := c2.v) (g_call pc2 rfl rfl rfl Tryd.func10 nm10 bd10) ?_
  refine E_skip rfl ?_
  refine E_nil ?_
  refine ⟨?_, fun β1 w hM => ?_⟩
  · skip
    refine M_val rfl ?_
    refine M_val rfl ?_
    refine M_val rfl ?_
    refine M_val rfl ?_
    refine M_alloc rfl rfl (runs_alloc rfl Tryd.zeroValue30 rfl) ?_
    exact M_nil
  replace hM : Mem _ _ w [⟨(β1 4), #[(.int .u64 0), (.int .u64 0), (.int .u64 0), (.int .u64 0), (.int .u64 0)], 30, true⟩, ⟨b2, #[(.int .u64 0), (.int .u64 0), (.int .u64 0), (.int .u64 0), (.int .u64 0)], 30, true⟩, ⟨b1, #[(.int .u64 v.l0), (.int .u64 v.l1), (.int .u64 v.l2), (.int .u64 v.l3), (.int .u64 v.l4)], 30, true⟩, ⟨b0, #[(.int .u64 u.l0), (.int .u64 u.l1), (.int .u64 u.l2), (.int .u64 u.l3), (.int .u64 u.l4)], 30, true⟩] := hM
  show wpList _ _ _ (_ :: _) (putAll _ ((6, _) :: _)) _
  refine T_store 0 hn hM rfl rfl rfl rfl rfl rfl rfl (c' := #[(.int .u64 c2.l0), (.int .u64 c2.l1), (.int .u64 c2.l2), (.int .u64 c2.l3), (.int .u64 c2.l4)]) (sets_row sz30 rfl rfl rfl) (fun w hM => ?_)
  replace hM : Mem _ _ w [⟨(β1 4), #[(.int .u64 c2.l0), (.int .u64 c2.l1), (.int .u64 c2.l2), (.int .u64 c2.l3), (.int .u64 c2.l4)], 30, true⟩, ⟨b2, #[(.int .u64 0), (.int .u64 0), (.int .u64 0), (.int .u64 0), (.int .u64 0)], 30, true⟩, ⟨b1, #[(.int .u64 v.l0), (.int .u64 v.l1), (.int .u64 v.l2), (.int .u64 v.l3), (.int .u64 v.l4)], 30, true⟩, ⟨b0, #[(.int .u64 u.l0), (.int .u64 u.l1), (.int .u64 u.l2), (.int .u64 u.l3), (.int .u64 u.l4)], 30, true⟩] := hM
  refine T_nil ?_
  refine wp_seq ?_
  refine R_any [.val, .val, .val, .val, .alloc] 5 [⟨4, #[(.int .u64 0), (.int .u64 0), (.int .u64 0), (.int .u64 0), (.int .u64 0)], #[(.int .u64 0), (.int .u64 0), (.int .u64 0), (.int .u64 0), (.int .u64 0)], 30⟩] [(4, 7)] hn hM rfl (by kernel_rfl) (by kernel_rfl) rfl rfl rfl ?_
  refine E_val 14 rfl rfl rfl rfl (v := (.agg #[(.int .u64 c2.l0), (.int .u64 c2.l1), (.int .u64 c2.l2), (.int .u64 c2.l3), (.int .u64 c2.l4)])) (g_loadRow 0 [(.int .u64 c2.l0), (.int .u64 c2.l1), (.int .u64 c2.l2), (.int .u64 c2.l3), (.int .u64 c2.l4)] rfl rfl rfl Tryd.underlying30 rfl sz30 rfl) ?_
  refine E_call 15 rfl rfl rfl rfl (v := c3.v) (g_call pc3 rfl rfl rfl Tryd.func45 nm45 bd45) ?_
  refine E_val 16 rfl rfl rfl rfl (v := (.agg #[(.int .u64 v.l0), (.int .u64 v.l1), (.int .u64 v.l2), (.int .u64 v.l3), (.int .u64 v.l4)])) (g_loadRow 2 [(.int .u64 v.l0), (.int .u64 v.l1), (.int .u64 v.l2), (.int .u64 v.l3), (.int .u64 v.l4)] rfl rfl rfl Tryd.underlying30 rfl sz30 rfl) ?_
  refine E_call 17 rfl rfl rfl rfl (v := c4.v) (g_call pc4 rfl rfl rfl Tryd.func10 nm10 bd10) ?_
  refine E_skip rfl ?_
  refine E_nil ?_
  refine ⟨?_, fun β2 w hM => ?_⟩
  · skip
    refine M_val rfl ?_
    refine M_val rfl ?_
    refine M_val rfl ?_
    refine M_val rfl ?_
    refine M_alloc rfl rfl (runs_alloc rfl Tryd.zeroValue30 rfl) ?_
    exact M_nil
  replace hM : Mem _ _ w [⟨(β2 4), #[(.int .u64 0), (.int .u64 0), (.int .u64 0), (.int .u64 0), (.int .u64 0)], 30, true⟩, ⟨(β1 4), #[(.int .u64 c2.l0), (.int .u64 c2.l1), (.int .u64 c2.l2), (.int .u64 c2.l3), (.int .u64 c2.l4)], 30, true⟩, ⟨b2, #[(.int .u64 0), (.int .u64 0), (.int .u64 0), (.int .u64 0), (.int .u64 0)], 30, true⟩, ⟨b1, #[(.int .u64 v.l0), (.int .u64 v.l1), (.int .u64 v.l2), (.int .u64 v.l3), (.int .u64 v.l4)], 30, true⟩, ⟨b0, #[(.int .u64 u.l0), (.int .u64 u.l1), (.int .u64 u.l2), (.int .u64 u.l3), (.int .u64 u.l4)], 30, true⟩] := hM
  show wpList _ _ _ (_ :: _) (putAll _ ((7, _) :: _)) _
  refine T_store 0 hn hM rfl rfl rfl rfl rfl rfl rfl (c' := #[(.int .u64 c4.l0), (.int .u64 c4.l1), (.int .u64 c4.l2), (.int .u64 c4.l3), (.int .u64 c4.l4)]) (sets_row sz30 rfl rfl rfl) (fun w hM => ?_)
  replace hM : Mem _ _ w [⟨(β2 4), #[(.int .u64 c4.l0), (.int .u64 c4.l1), (.int .u64 c4.l2), (.int .u64 c4.l3), (.int .u64 c4.l4)], 30, true⟩, ⟨(β1 4), #[(.int .u64 c2.l0), (.int .u64 c2.l1), (.int .u64 c2.l2), (.int .u64 c2.l3), (.int .u64 c2.l4)], 30, true⟩, ⟨b2, #[(.int .u64 0), (.int .u64 0), (.int .u64 0), (.int .u64 0), (.int .u64 0)], 30, true⟩, ⟨b1, #[(.int .u64 v.l0), (.int .u64 v.l1), (.int .u64 v.l2), (.int .u64 v.l3), (.int .u64 v.l4)], 30, true⟩, ⟨b0, #[(.int .u64 u.l0), (.int .u64 u.l1), (.int .u64 u.l2), (.int .u64 u.l3), (.int .u64 u.l4)], 30, true⟩] := hM
  refine T_nil ?_
  refine wp_seq ?_
  refine R_any [.val, .val, .val, .val, .val, .val, .val, .val, .alloc] 9 [⟨8, #[(.int .u64 0), (.int .u64 0), (.int .u64 0), (.int .u64 0), (.int .u64 0)], #[(.int .u64 0), (.int .u64 0), (.int .u64 0), (.int .u64 0), (.int .u64 0)], 30⟩] [(8, 8)] hn hM rfl (by kernel_rfl) (by kernel_rfl) rfl rfl rfl ?_
  refine E_val 18 rfl rfl rfl rfl (v := (.agg #[(.int .u64 u.l0), (.int .u64 u.l1), (.int .u64 u.l2), (.int .u64 u.l3), (.int .u64 u.l4)])) (g_loadRow 4 [(.int .u64 u.l0), (.int .u64 u.l1), (.int .u64 u.l2), (.int .u64 u.l3), (.int .u64 u.l4)] rfl rfl rfl Tryd.underlying30 rfl sz30 rfl) ?_
  refine E_val 19 rfl rfl rfl rfl (v := (.agg #[(.int .u64 c2.l0), (.int .u64 c2.l1), (.int .u64 c2.l2), (.int .u64 c2.l3), (.int .u64 c2.l4)])) (g_loadRow 1 [(.int .u64 c2.l0), (.int .u64 c2.l1), (.int .u64 c2.l2), (.int .u64 c2.l3), (.int .u64 c2.l4)] rfl rfl rfl Tryd.underlying30 rfl sz30 rfl) ?_
  refine E_call 20 rfl rfl rfl rfl (v := c5.v) (g_call pc5 rfl rfl rfl Tryd.func10 nm10 bd10) ?_
  refine E_val 21 rfl rfl rfl rfl (v := (.agg #[(.int .u64 u.l0), (.int .u64 u.l1), (.int .u64 u.l2), (.int .u64 u.l3), (.int .u64 u.l4)])) (g_loadRow 4 [(.int .u64 u.l0), (.int .u64 u.l1), (.int .u64 u.l2), (.int .u64 u.l3), (.int .u64 u.l4)] rfl rfl rfl Tryd.underlying30 rfl sz30 rfl) ?_
  refine E_val 22 rfl rfl rfl rfl (v := (.agg #[(.int .u64 c4.l0), (.int .u64 c4.l1), (.int .u64 c4.l2), (.int .u64 c4.l3), (.int .u64 c4.l4)])) (g_loadRow 0 [(.int .u64 c4.l0), (.int .u64 c4.l1), (.int .u64 c4.l2), (.int .u64 c4.l3), (.int .u64 c4.l4)] rfl rfl rfl Tryd.underlying30 rfl sz30 rfl) ?_
  refine E_call 23 rfl rfl rfl rfl (v := c6.v) (g_call pc6 rfl rfl rfl Tryd.func10 nm10 bd10) ?_
  refine E_call 24 rfl rfl rfl rfl (v := c7.v) (g_call pc7 rfl rfl rfl Tryd.func27 nm27 bd27) ?_
  refine E_call 25 rfl rfl rfl rfl (v := c8.v) (g_call pc8 rfl rfl rfl Tryd.func10 nm10 bd10) ?_
  refine E_skip rfl ?_
  refine E_nil ?_
  refine ⟨?_, fun β3 w hM => ?_⟩
  · skip
    refine M_val rfl ?_
    refine M_val rfl ?_
    refine M_val rfl ?_
    refine M_val rfl ?_
    refine M_val rfl ?_
    refine M_val rfl ?_
    refine M_val rfl ?_
    refine M_val rfl ?_
    refine M_alloc rfl rfl (runs_alloc rfl Tryd.zeroValue30 rfl) ?_
    exact M_nil
  replace hM : Mem _ _ w [⟨(β3 8), #[(.int .u64 0), (.int .u64 0), (.int .u64 0), (.int .u64 0), (.int .u64 0)], 30, true⟩, ⟨(β2 4), #[(.int .u64 c4.l0), (.int .u64 c4.l1), (.int .u64 c4.l2), (.int .u64 c4.l3), (.int .u64 c4.l4)], 30, true⟩, ⟨(β1 4), #[(.int .u64 c2.l0), (.int .u64 c2.l1), (.int .u64 c2.l2), (.int .u64 c2.l3), (.int .u64 c2.l4)], 30, true⟩, ⟨b2, #[(.int .u64 0), (.int .u64 0), (.int .u64 0), (.int .u64 0), (.int .u64 0)], 30, true⟩, ⟨b1, #[(.int .u64 v.l0), (.int .u64 v.l1), (.int .u64 v.l2), (.int .u64 v.l3), (.int .u64 v.l4)], 30, true⟩, ⟨b0, #[(.int .u64 u.l0), (.int .u64 u.l1), (.int .u64 u.l2), (.int .u64 u.l3), (.int .u64 u.l4)], 30, true⟩] := hM
  show wpList _ _ _ (_ :: _) (putAll _ ((8, _) :: _)) _
  refine T_store 0 hn hM rfl rfl rfl rfl rfl rfl rfl (c' := #[(.int .u64 c8.l0), (.int .u64 c8.l1), (.int .u64 c8.l2), (.int .u64 c8.l3), (.int .u64 c8.l4)]) (sets_row sz30 rfl rfl rfl) (fun w hM => ?_)
  replace hM : Mem _ _ w [⟨(β3 8), #[(.int .u64 c8.l0), (.int .u64 c8.l1), (.int .u64 c8.l2), (.int .u64 c8.l3), (.int .u64 c8.l4)], 30, true⟩, ⟨(β2 4), #[(.int .u64 c4.l0), (.int .u64 c4.l1), (.int .u64 c4.l2), (.int .u64 c4.l3), (.int .u64 c4.l4)], 30, true⟩, ⟨(β1 4), #[(.int .u64 c2.l0), (.int .u64 c2.l1), (.int .u64 c2.l2), (.int .u64 c2.l3), (.int .u64 c2.l4)], 30, true⟩, ⟨b2, #[(.int .u64 0), (.int .u64 0), (.int .u64 0), (.int .u64 0), (.int .u64 0)], 30, true⟩, ⟨b1, #[(.int .u64 v.l0), (.int .u64 v.l1), (.int .u64 v.l2), (.int .u64 v.l3), (.int .u64 v.l4)], 30, true⟩, ⟨b0, #[(.int .u64 u.l0), (.int .u64 u.l1), (.int .u64 u.l2), (.int .u64 u.l3), (.int .u64 u.l4)], 30, true⟩] := hM
  refine T_nil ?_
  refine wp_seq ?_
  refine wp_seq ?_
  refine R_any [.val, .val, .val, .val, .alloc] 5 [⟨4, #[(.int .u64 0), (.int .u64 0), (.int .u64 0), (.int .u64 0), (.int .u64 0)], #[(.int .u64 0), (.int .u64 0), (.int .u64 0), (.int .u64 0), (.int .u64 0)], 30⟩] [(4, 9)] hn hM rfl (by kernel_rfl) (by kernel_rfl) rfl rfl rfl ?_
  refine E_val 26 rfl rfl rfl rfl (v := (.agg #[(.int .u64 c8.l0), (.int .u64 c8.l1), (.int .u64 c8.l2), (.int .u64 c8.l3), (.int .u64 c8.l4)])) (g_loadRow 0 [(.int .u64 c8.l0), (.int .u64 c8.l1), (.int .u64 c8.l2), (.int .u64 c8.l3), (.int .u64 c8.l4)] rfl rfl rfl Tryd.underlying30 rfl sz30 rfl) ?_
  refine E_call 27 rfl rfl rfl rfl (v := c9.v) (g_call pc9 rfl rfl rfl Tryd.func45 nm45 bd45) ?_
  refine E_val 28 rfl rfl rfl rfl (v := (.agg #[(.int .u64 v.l0), (.int .u64 v.l1), (.int .u64 v.l2), (.int .u64 v.l3), (.int .u64 v.l4)])) (g_loadRow 4 [(.int .u64 v.l0), (.int .u64 v.l1), (.int .u64 v.l2), (.int .u64 v.l3), (.int .u64 v.l4)] rfl rfl rfl Tryd.underlying30 rfl sz30 rfl) ?_
  refine E_call 29 rfl rfl rfl rfl (v := c10.v) (g_call pc10 rfl rfl rfl Tryd.func10 nm10 bd10) ?_
  refine E_skip rfl ?_
  refine E_nil ?_
  refine ⟨?_, fun β4 w hM => ?_⟩
  · skip
    refine M_val rfl ?_
    refine M_val rfl ?_
    refine M_val rfl ?_
    refine M_val rfl ?_
    refine M_alloc rfl rfl (runs_alloc rfl Tryd.zeroValue30 rfl) ?_
    exact M_nil
  replace hM : Mem _ _ w [⟨(β4 4), #[(.int .u64 0), (.int .u64 0), (.int .u64 0), (.int .u64 0), (.int .u64 0)], 30, true⟩, ⟨(β3 8), #[(.int .u64 c8.l0), (.int .u64 c8.l1), (.int .u64 c8.l2), (.int .u64 c8.l3), (.int .u64 c8.l4)], 30, true⟩, ⟨(β2 4), #[(.int .u64 c4.l0), (.int .u64 c4.l1), (.int .u64 c4.l2), (.int .u64 c4.l3), (.int .u64 c4.l4)], 30, true⟩, ⟨(β1 4), #[(.int .u64 c2.l0), (.int .u64 c2.l1), (.int .u64 c2.l2), (.int .u64 c2.l3), (.int .u64 c2.l4)], 30, true⟩, ⟨b2, #[(.int .u64 0), (.int .u64 0), (.int .u64 0), (.int .u64 0), (.int .u64 0)], 30, true⟩, ⟨b1, #[(.int .u64 v.l0), (.int .u64 v.l1), (.int .u64 v.l2), (.int .u64 v.l3), (.int .u64 v.l4)], 30, true⟩, ⟨b0, #[(.int .u64 u.l0), (.int .u64 u.l1), (.int .u64 u.l2), (.int .u64 u.l3), (.int .u64 u.l4)], 30, true⟩] := hM
  show wpList _ _ _ (_ :: _) (putAll _ ((9, _) :: _)) _
  refine T_store 0 hn hM rfl rfl rfl rfl rfl rfl rfl (c' := #[(.int .u64 c10.l0), (.int .u64 c10.l1), (.int .u64 c10.l2), (.int .u64 c10.l3), (.int .u64 c10.l4)]) (sets_row sz30 rfl rfl rfl) (fun w hM => ?_)
  replace hM : Mem _ _ w [⟨(β4 4), #[(.int .u64 c10.l0), (.int .u64 c10.l1), (.int .u64 c10.l2), (.int .u64 c10.l3), (.int .u64 c10.l4)], 30, true⟩, ⟨(β3 8), #[(.int .u64 c8.l0), (.int .u64 c8.l1), (.int .u64 c8.l2), (.int .u64 c8.l3), (.int .u64 c8.l4)], 30, true⟩, ⟨(β2 4), #[(.int .u64 c4.l0), (.int .u64 c4.l1), (.int .u64 c4.l2), (.int .u64 c4.l3), (.int .u64 c4.l4)], 30, true⟩, ⟨(β1 4), #[(.int .u64 c2.l0), (.int .u64 c2.l1), (.int .u64 c2.l2), (.int .u64 c2.l3), (.int .u64 c2.l4)], 30, true⟩, ⟨b2, #[(.int .u64 0), (.int .u64 0), (.int .u64 0), (.int .u64 0), (.int .u64 0)], 30, true⟩, ⟨b1, #[(.int .u64 v.l0), (.int .u64 v.l1), (.int .u64 v.l2), (.int .u64 v.l3), (.int .u64 v.l4)], 30, true⟩, ⟨b0, #[(.int .u64 u.l0), (.int .u64 u.l1), (.int .u64 u.l2), (.int .u64 u.l3), (.int .u64 u.l4)], 30, true⟩] := hM
  refine T_nil ?_
  refine wp_block ?_
  refine wp_seq ?_
  refine wp_region_lit ?_
  refine T_val 32 hn hM rfl rfl rfl (v := (.agg #[(.int .u64 c10.l0), (.int .u64 c10.l1), (.int .u64 c10.l2), (.int .u64 c10.l3), (.int .u64 c10.l4)])) (g_loadRow 0 [(.int .u64 c10.l0), (.int .u64 c10.l1), (.int .u64 c10.l2), (.int .u64 c10.l3), (.int .u64 c10.l4)] rfl rfl rfl Tryd.underlying30 rfl sz30 rfl) ?_
  refine T_val 33 hn hM rfl rfl rfl (v := (.agg #[(.int .u64 u.l0), (.int .u64 u.l1), (.int .u64 u.l2), (.int .u64 u.l3), (.int .u64 u.l4)])) (g_loadRow 6 [(.int .u64 u.l0), (.int .u64 u.l1), (.int .u64 u.l2), (.int .u64 u.l3), (.int .u64 u.l4)] rfl rfl rfl Tryd.underlying30 rfl sz30 rfl) ?_
  refine T_call 34 hn hM rfl rfl rfl (v := (.bool false)) (g_call ps11 rfl rfl rfl Tryd.func63 nm63 bd63) (fun w hM => ?_)
  refine T_val 31 hn hM rfl rfl rfl (v := (.bool false)) (g_assign rfl rfl) ?_
  refine T_nil ?_
  refine C_condF hn rfl rfl ?_
  refine wp_seq ?_
  refine R_any [.val, .val, .val] 3 [] [] hn hM rfl (by kernel_rfl) (by kernel_rfl) rfl rfl rfl ?_
  refine E_val 36 rfl rfl rfl rfl (v := (.agg #[(.int .u64 c10.l0), (.int .u64 c10.l1), (.int .u64 c10.l2), (.int .u64 c10.l3), (.int .u64 c10.l4)])) (g_loadRow 0 [(.int .u64 c10.l0), (.int .u64 c10.l1), (.int .u64 c10.l2), (.int .u64 c10.l3), (.int .u64 c10.l4)] rfl rfl rfl Tryd.underlying30 rfl sz30 rfl) ?_
  refine E_val 37 rfl rfl rfl rfl (v := (.agg #[(.int .u64 u.l0), (.int .u64 u.l1), (.int .u64 u.l2), (.int .u64 u.l3), (.int .u64 u.l4)])) (g_loadRow 6 [(.int .u64 u.l0), (.int .u64 u.l1), (.int .u64 u.l2), (.int .u64 u.l3), (.int .u64 u.l4)] rfl rfl rfl Tryd.underlying30 rfl sz30 rfl) ?_
  refine E_call 38 rfl rfl rfl rfl (v := c12.v) (g_call pc12 rfl rfl rfl Tryd.func38 nm38 bd38) ?_
  refine E_nil ?_
  refine ⟨?_, fun β5 w hM => ?_⟩
  · skip
    refine M_val rfl ?_
    refine M_val rfl ?_
    refine M_val rfl ?_
    exact M_nil
  show wpList _ _ _ (_ :: _) (putAll _ (_)) _
  refine T_call 39 hn hM rfl rfl rfl (v := (.bool true)) (g_call ps13 rfl rfl rfl Tryd.func63 nm63 bd63) (fun w hM => ?_)
  refine T_val 35 hn hM rfl rfl rfl (v := (.bool true)) (g_assign rfl rfl) ?_
  refine T_nil ?_
  refine C_condT hn rfl rfl ?_
  refine R_any [.val, .val] 2 [] [] hn hM rfl (by kernel_rfl) (by kernel_rfl) rfl rfl rfl ?_
  refine E_val 40 rfl rfl rfl rfl (v := (.agg #[(.int .u64 c8.l0), (.int .u64 c8.l1), (.int .u64 c8.l2), (.int .u64 c8.l3), (.int .u64 c8.l4)])) (g_loadRow 1 [(.int .u64 c8.l0), (.int .u64 c8.l1), (.int .u64 c8.l2), (.int .u64 c8.l3), (.int .u64 c8.l4)] rfl rfl rfl Tryd.underlying30 rfl sz30 rfl) ?_
  refine E_call 41 rfl rfl rfl rfl (v := c14.v) (g_call pc14 rfl rfl rfl Tryd.func64 nm64 bd64) ?_
  refine E_nil ?_
  refine ⟨?_, fun β6 w hM => ?_⟩
  · skip
    refine M_val rfl ?_
    refine M_val rfl ?_
    exact M_nil
  show wpList _ _ _ (_ :: _) (putAll _ (_)) _
  refine T_call 42 hn hM rfl rfl rfl (v := c15.v) (g_call pc15 rfl rfl rfl Tryd.func10 nm10 bd10) (fun w hM => ?_)
  refine T_store 1 hn hM rfl rfl rfl rfl rfl rfl rfl (c' := #[(.int .u64 c15.l0), (.int .u64 c15.l1), (.int .u64 c15.l2), (.int .u64 c15.l3), (.int .u64 c15.l4)]) (sets_row sz30 rfl rfl rfl) (fun w hM => ?_)
  replace hM : Mem _ _ w [⟨(β4 4), #[(.int .u64 c10.l0), (.int .u64 c10.l1), (.int .u64 c10.l2), (.int .u64 c10.l3), (.int .u64 c10.l4)], 30, true⟩, ⟨(β3 8), #[(.int .u64 c15.l0), (.int .u64 c15.l1), (.int .u64 c15.l2), (.int .u64 c15.l3), (.int .u64 c15.l4)], 30, true⟩, ⟨(β2 4), #[(.int .u64 c4.l0), (.int .u64 c4.l1), (.int .u64 c4.l2), (.int .u64 c4.l3), (.int .u64 c4.l4)], 30, true⟩, ⟨(β1 4), #[(.int .u64 c2.l0), (.int .u64 c2.l1), (.int .u64 c2.l2), (.int .u64 c2.l3), (.int .u64 c2.l4)], 30, true⟩, ⟨b2, #[(.int .u64 0), (.int .u64 0), (.int .u64 0), (.int .u64 0), (.int .u64 0)], 30, true⟩, ⟨b1, #[(.int .u64 v.l0), (.int .u64 v.l1), (.int .u64 v.l2), (.int .u64 v.l3), (.int .u64 v.l4)], 30, true⟩, ⟨b0, #[(.int .u64 u.l0), (.int .u64 u.l1), (.int .u64 u.l2), (.int .u64 u.l3), (.int .u64 u.l4)], 30, true⟩] := hM
  refine T_end ?_
  refine x_norm ?_
  refine x_next ?_
  refine wp_seq ?_
  refine R_any [.val, .val, .val, .val, .val] 5 [] [] hn hM rfl (by kernel_rfl) (by kernel_rfl) rfl rfl rfl ?_
  refine E_val 43 rfl rfl rfl rfl (v := (.agg #[(.int .u64 c15.l0), (.int .u64 c15.l1), (.int .u64 c15.l2), (.int .u64 c15.l3), (.int .u64 c15.l4)])) (g_loadRow 1 [(.int .u64 c15.l0), (.int .u64 c15.l1), (.int .u64 c15.l2), (.int .u64 c15.l3), (.int .u64 c15.l4)] rfl rfl rfl Tryd.underlying30 rfl sz30 rfl) ?_
  refine E_call 44 rfl rfl rfl rfl (v := (.bool (((((fu * ((fv * fv) * fv)) * (pw (fu * ((((fv * fv) * fv) * ((fv * fv) * fv)) * fv)) ((Num.P - 5) / 8))) * (if ((pw (toF 2) ((Num.P - 1) / 4))).val % 2 == 1 then (0 - (pw (toF 2) ((Num.P - 1) / 4))) else (pw (toF 2) ((Num.P - 1) / 4))))).val % 2 == 1))) (g_call (odd_E hc15) rfl rfl rfl Tryd.func44 nm44 bd44) ?_
  refine E_val 45 rfl rfl rfl rfl (v := (.agg #[(.int .u64 c15.l0), (.int .u64 c15.l1), (.int .u64 c15.l2), (.int .u64 c15.l3), (.int .u64 c15.l4)])) (g_loadRow 1 [(.int .u64 c15.l0), (.int .u64 c15.l1), (.int .u64 c15.l2), (.int .u64 c15.l3), (.int .u64 c15.l4)] rfl rfl rfl Tryd.underlying30 rfl sz30 rfl) ?_
  refine E_call 46 rfl rfl rfl rfl (v := c16.v) (g_call pc16 rfl rfl rfl Tryd.func38 nm38 bd38) ?_
  refine E_val 47 rfl rfl rfl rfl (v := (.agg #[(.int .u64 c15.l0), (.int .u64 c15.l1), (.int .u64 c15.l2), (.int .u64 c15.l3), (.int .u64 c15.l4)])) (g_loadRow 1 [(.int .u64 c15.l0), (.int .u64 c15.l1), (.int .u64 c15.l2), (.int .u64 c15.l3), (.int .u64 c15.l4)] rfl rfl rfl Tryd.underlying30 rfl sz30 rfl) ?_
  refine E_nil ?_
  refine ⟨?_, fun β7 w hM => ?_⟩
  · skip
    refine M_val rfl ?_
    refine M_val rfl ?_
    refine M_val rfl ?_
    refine M_val rfl ?_
    refine M_val rfl ?_
    exact M_nil
  show wpList _ _ _ (_ :: _) (putAll _ (_)) _
  refine T_call 48 hn hM rfl rfl rfl (v := c17.v) (g_call pc17 rfl rfl rfl Tryd.func55 nm55 bd55) (fun w hM => ?_)
  refine T_store 4 hn hM rfl rfl rfl rfl rfl rfl rfl (c' := #[(.int .u64 c17.l0), (.int .u64 c17.l1), (.int .u64 c17.l2), (.int .u64 c17.l3), (.int .u64 c17.l4)]) (sets_row sz30 rfl rfl rfl) (fun w hM => ?_)
  replace hM : Mem _ _ w [⟨(β4 4), #[(.int .u64 c10.l0), (.int .u64 c10.l1), (.int .u64 c10.l2), (.int .u64 c10.l3), (.int .u64 c10.l4)], 30, true⟩, ⟨(β3 8), #[(.int .u64 c15.l0), (.int .u64 c15.l1), (.int .u64 c15.l2), (.int .u64 c15.l3), (.int .u64 c15.l4)], 30, true⟩, ⟨(β2 4), #[(.int .u64 c4.l0), (.int .u64 c4.l1), (.int .u64 c4.l2), (.int .u64 c4.l3), (.int .u64 c4.l4)], 30, true⟩, ⟨(β1 4), #[(.int .u64 c2.l0), (.int .u64 c2.l1), (.int .u64 c2.l2), (.int .u64 c2.l3), (.int .u64 c2.l4)], 30, true⟩, ⟨b2, #[(.int .u64 c17.l0), (.int .u64 c17.l1), (.int .u64 c17.l2), (.int .u64 c17.l3), (.int .u64 c17.l4)], 30, true⟩, ⟨b1, #[(.int .u64 v.l0), (.int .u64 v.l1), (.int .u64 v.l2), (.int .u64 v.l3), (.int .u64 v.l4)], 30, true⟩, ⟨b0, #[(.int .u64 u.l0), (.int .u64 u.l1), (.int .u64 u.l2), (.int .u64 u.l3), (.int .u64 u.l4)], 30, true⟩] := hM
  refine T_val 5 hn hM rfl rfl rfl (v := (.bool true)) (g_assign rfl rfl) ?_
  refine T_nil ?_
  refine wp_ret ?_
  refine leave (.inl rfl) hn hdf hM rfl Tryd.results56 (vs := [(.agg #[(.int .u64 c17.l0), (.int .u64 c17.l1), (.int .u64 c17.l2), (.int .u64 c17.l3), (.int .u64 c17.l4)]), (.bool true)]) (.row 4 rfl rfl Tryd.underlying30 rfl sz30 (.tmp 5 rfl .nil)) ?_
  exact ⟨rfl, hM.done⟩


set_option maxHeartbeats 1000000 in
set_option maxRecDepth 100000 in
theorem root2_E {u v : El} {fu fv : F} (hu : IsL u fu) (hv : IsL v fv) (hs0 : ((((fu * ((fv * fv) * fv)) * (pw (fu * ((((fv * fv) * fv) * ((fv * fv) * fv)) * fv)) ((Num.P - 5) / 8))) * ((fu * ((fv * fv) * fv)) * (pw (fu * ((((fv * fv) * fv) * ((fv * fv) * fv)) * fv)) ((Num.P - 5) / 8)))) * fv) ≠ fu) (hs1 : ((((fu * ((fv * fv) * fv)) * (pw (fu * ((((fv * fv) * fv) * ((fv * fv) * fv)) * fv)) ((Num.P - 5) / 8))) * ((fu * ((fv * fv) * fv)) * (pw (fu * ((((fv * fv) * fv) * ((fv * fv) * fv)) * fv)) ((Num.P - 5) / 8)))) * fv) ≠ (0 - fu)) : ∃ c : El, IsL c 0 ∧ Pure 56 #[u.v, v.v] (.tuple #[c.v, (.bool false)]) := by
  obtain ⟨c1, hc1, pc1⟩ := sq_E hv
  obtain ⟨c2, hc2, pc2⟩ := mul_E hc1 hv
  obtain ⟨c3, hc3, pc3⟩ := sq_E hc2
  obtain ⟨c4, hc4, pc4⟩ := mul_E hc3 hv
  obtain ⟨c5, hc5, pc5⟩ := mul_E hu hc2
  obtain ⟨c6, hc6, pc6⟩ := mul_E hu hc4
  obtain ⟨c7, hc7, pc7⟩ := pow24_E hc6
  obtain ⟨c8, hc8, pc8⟩ := mul_E hc5 hc7
  obtain ⟨c9, hc9, pc9⟩ := sq_E hc8
  obtain ⟨c10, hc10, pc10⟩ := mul_E hc9 hv
  have ps11 := same_E hc10 hu
  rw [decide_eq_false hs0] at ps11
  obtain ⟨c12, hc12, pc12⟩ := neg_E hu
  have ps13 := same_E hc10 hc12
  rw [decide_eq_false hs1] at ps13
  refine ⟨(⟨0, 0, 0, 0, 0⟩ : El), zero_is, fun w => ?_⟩
  refine enter Tryd.func56 rfl Tryd.ntmps56 (Nat.le_of_ble_eq_true rfl) fun A hn hdf => ?_
  have hM : Mem w [] w [] := Mem.start w
  replace hM := hM
  refine wp_seq ?_
  refine wp_region_lit ?_
  refine T_box 2 hn hM rfl rfl rfl rfl rfl #[(.int .u64 u.l0), (.int .u64 u.l1), (.int .u64 u.l2), (.int .u64 u.l3), (.int .u64 u.l4)] rfl (fun b0 w hM => ?_)
  refine T_box 3 hn hM rfl rfl rfl rfl rfl #[(.int .u64 v.l0), (.int .u64 v.l1), (.int .u64 v.l2), (.int .u64 v.l3), (.int .u64 v.l4)] rfl (fun b1 w hM => ?_)
  refine T_alloc 4 hn hM rfl rfl rfl rfl Tryd.zeroValue30 #[(.int .u64 0), (.int .u64 0), (.int .u64 0), (.int .u64 0), (.int .u64 0)] rfl (fun b2 w hM => ?_)
  refine T_val 5 hn hM rfl rfl rfl (v := (.bool false)) (g_assign rfl rfl) ?_
  refine T_nil ?_
  refine wp_seq ?_
  refine R_any [.val, .val, .val, .val, .alloc] 5 [⟨4, #[(.int .u64 0), (.int .u64 0), (.int .u64 0), (.int .u64 0), (.int .u64 0)], #[(.int .u64 0), (.int .u64 0), (.int .u64 0), (.int .u64 0), (.int .u64 0)], 30⟩] [(4, 6)] hn hM rfl (by kernel_rfl) (by kernel_rfl) rfl rfl rfl ?_
  refine E_val 10 rfl rfl rfl rfl (v := (.agg #[(.int .u64 v.l0), (.int .u64 v.l1), (.int .u64 v.l2), (.int .u64 v.l3), (.int .u64 v.l4)])) (g_loadRow 1 [(.int .u64 v.l0), (.int .u64 v.l1), (.int .u64 v.l2), (.int .u64 v.l3), (.int .u64 v.l4)] rfl rfl rfl Tryd.underlying30 rfl sz30 rfl) ?_
  refine E_call 11 rfl rfl rfl rfl (v := c1.v) (g_call pc1 rfl rfl rfl Tryd.func45 nm45 bd45) ?_
  refine E_val 12 rfl rfl rfl rfl (v := (.agg #[(.int .u64 v.l0), (.int .u64 v.l1), (.int .u64 v.l2), (.int .u64 v.l3), (.int .u64 v.l4)])) (g_loadRow 1 [(.int .u64 v.l0), (.int .u64 v.l1), (.int .u64 v.l2), (.int .u64 v.l3), (.int .u64 v.l4)] rfl rfl rfl Tryd.underlying30 rfl sz30 rfl) ?_
  refine E_call 13 rfl rfl rfl rfl (v := c2.v) (g_call pc2 rfl rfl rfl Tryd.func10 nm10 bd10) ?_
  refine E_skip rfl ?_
  refine E_nil ?_
  refine ⟨?_, fun β1 w hM => ?_⟩
  · skip
    refine M_val rfl ?_
    refine M_val rfl ?_
    refine M_val rfl ?_
    refine M_val rfl ?_
    refine M_alloc rfl rfl (runs_alloc rfl Tryd.zeroValue30 rfl) ?_
    exact M_nil
  replace hM : Mem _ _ w [⟨(β1 4), #[(.int .u64 0), (.int .u64 0), (.int .u64 0), (.int .u64 0), (.int .u64 0)], 30, true⟩, ⟨b2, #[(.int .u64 0), (.int .u64 0), (.int .u64 0), (.int .u64 0), (.int .u64 0)], 30, true⟩, ⟨b1, #[(.int .u64 v.l0), (.int .u64 v.l1), (.int .u64 v.l2), (.int .u64 v.l3), (.int .u64 v.l4)], 30, true⟩, ⟨b0, #[(.int .u64 u.l0), (.int .u64 u.l1), (.int .u64 u.l2), (.int .u64 u.l3), (.int .u64 u.l4)], 30, true⟩] := hM
  show wpList _ _ _ (_ :: _) (putAll _ ((6, _) :: _)) _
  refine T_store 0 hn hM rfl rfl rfl rfl rfl rfl rfl (c' := #[(.int .u64 c2.l0), (.int .u64 c2.l1), (.int .u64 c2.l2), (.int .u64 c2.l3), (.int .u64 c2.l4)]) (sets_row sz30 rfl rfl rfl) (fun w hM => ?_)
  replace hM : Mem _ _ w [⟨(β1 4), #[(.int .u64 c2.l0), (.int .u64 c2.l1), (.int .u64 c2.l2), (.int .u64 c2.l3), (.int .u64 c2.l4)], 30, true⟩, ⟨b2, #[(.int .u64 0), (.int .u64 0), (.int .u64 0), (.int .u64 0), (.int .u64 0)], 30, true⟩, ⟨b1, #[(.int .u64 v.l0), (.int .u64 v.l1), (.int .u64 v.l2), (.int .u64 v.l3), (.int .u64 v.l4)], 30, true⟩, ⟨b0, #[(.int .u64 u.l0), (.int .u64 u.l1), (.int .u64 u.l2), (.int .u64 u.l3), (.int .u64 u.l4)], 30, true⟩] := hM
  refine T_nil ?_
  refine wp_seq ?_
  refine R_any [.val, .val, .val, .val, .alloc] 5 [⟨4, #[(.int .u64 0), (.int .u64 0), (.int .u64 0), (.int .u64 0), (.int .u64 0)], #[(.int .u64 0), (.int .u64 0), (.int .u64 0), (.int .u64 0), (.int .u64 0)], 30⟩] [(4, 7)] hn hM rfl (by kernel_rfl) (by kernel_rfl) rfl rfl rfl ?_
  refine E_val 14 rfl rfl rfl rfl (v := (.agg #[(.int .u64 c2.l0), (.int .u64 c2.l1), (.int .u64 c2.l2), (.int .u64 c2.l3), (.int .u64 c2.l4)])) (g_loadRow 0 [(.int .u64 c2.l0), (.int .u64 c2.l1), (.int .u64 c2.l2), (.int .u64 c2.l3), (.int .u64 c2.l4)] rfl rfl rfl Tryd.underlying30 rfl sz30 rfl) ?_
  refine E_call 15 rfl rfl rfl rfl (v := c3.v) (g_call pc3 rfl rfl rfl Tryd.func45 nm45 bd45) ?_
  refine E_val 16 rfl rfl rfl rfl (v := (.agg #[(.int .u64 v.l0), (.int .u64 v.l1), (.int .u64 v.l2), (.int .u64 v.l3), (.int .u64 v.l4)])) (g_loadRow 2 [(.int .u64 v.l0), (.int .u64 v.l1), (.int .u64 v.l2), (.int .u64 v.l3), (.int .u64 v.l4)] rfl rfl rfl Tryd.underlying30 rfl sz30 rfl) ?_
  refine E_call 17 rfl rfl rfl rfl (v := c4.v) (g_call pc4 rfl rfl rfl Tryd.func10 nm10 bd10) ?_
  refine E_skip rfl ?_
  refine E_nil ?_
  refine ⟨?_, fun β2 w hM => ?_⟩
  · skip
    refine M_val rfl ?_
    refine M_val rfl ?_
    refine M_val rfl ?_
    refine M_val rfl ?_
    refine M_alloc rfl rfl (runs_alloc rfl Tryd.zeroValue30 rfl) ?_
    exact M_nil
  replace hM : Mem _ _ w [⟨(β2 4), #[(.int .u64 0), (.int .u64 0), (.int .u64 0), (.int .u64 0), (.int .u64 0)], 30, true⟩, ⟨(β1 4), #[(.int .u64 c2.l0), (.int .u64 c2.l1), (.int .u64 c2.l2), (.int .u64 c2.l3), (.int .u64 c2.l4)], 30, true⟩, ⟨b2, #[(.int .u64 0), (.int .u64 0), (.int .u64 0), (.int .u64 0), (.int .u64 0)], 30, true⟩, ⟨b1, #[(.int .u64 v.l0), (.int .u64 v.l1), (.int .u64 v.l2), (.int .u64 v.l3), (.int .u64 v.l4)], 30, true⟩, ⟨b0, #[(.int .u64 u.l0), (.int .u64 u.l1), (.int .u64 u.l2), (.int .u64 u.l3), (.int .u64 u.l4)], 30, true⟩] := hM
  show wpList _ _ _ (_ :: _) (putAll _ ((7, _) :: _)) _
  refine T_store 0 hn hM rfl rfl rfl rfl rfl rfl rfl (c' := #[(.int .u64 c4.l0), (.int .u64 c4.l1), (.int .u64 c4.l2), (.int .u64 c4.l3), (.int .u64 c4.l4)]) (sets_row sz30 rfl rfl rfl) (fun w hM => ?_)
  replace hM : Mem _ _ w [⟨(β2 4), #[(.int .u64 c4.l0), (.int .u64 c4.l1), (.int .u64 c4.l2), (.int .u64 c4.l3), (.int .u64 c4.l4)], 30, true⟩, ⟨(β1 4), #[(.int .u64 c2.l0), (.int .u64 c2.l1), (.int .u64 c2.l2), (.int .u64 c2.l3), (.int .u64 c2.l4)], 30, true⟩, ⟨b2, #[(.int .u64 0), (.int .u64 0), (.int .u64 0), (.int .u64 0), (.int .u64 0)], 30, true⟩, ⟨b1, #[(.int .u64 v.l0), (.int .u64 v.l1), (.int .u64 v.l2), (.int .u64 v.l3), (.int .u64 v.l4)], 30, true⟩, ⟨b0, #[(.int .u64 u.l0), (.int .u64 u.l1), (.int .u64 u.l2), (.int .u64 u.l3), (.int .u64 u.l4)], 30, true⟩] := hM
  refine T_nil ?_
  refine wp_seq ?_
  refine R_any [.val, .val, .val, .val, .val, .val, .val, .val, .alloc] 9 [⟨8, #[(.int .u64 0), (.int .u64 0), (.int .u64 0), (.int .u64 0), (.int .u64 0)], #[(.int .u64 0), (.int .u64 0), (.int .u64 0), (.int .u64 0), (.int .u64 0)], 30⟩] [(8, 8)] hn hM rfl (by kernel_rfl) (by kernel_rfl) rfl rfl rfl ?_
  refine E_val 18 rfl rfl rfl rfl (v := (.agg #[(.int .u64 u.l0), (.int .u64 u.l1), (.int .u64 u.l2), (.int .u64 u.l3), (.int .u64 u.l4)])) (g_loadRow 4 [(.int .u64 u.l0), (.int .u64 u.l1), (.int .u64 u.l2), (.int .u64 u.l3), (.int .u64 u.l4)] rfl rfl rfl Tryd.underlying30 rfl sz30 rfl) ?_
  refine E_val 19 rfl rfl rfl rfl (v := (.agg #[(.int .u64 c2.l0), (.int .u64 c2.l1), (.int .u64 c2.l2), (.int .u64 c2.l3), (.int .u64 c2.l4)])) (g_loadRow 1 [(.int .u64 c2.l0), (.int .u64 c2.l1), (.int .u64 c2.l2), (.int .u64 c2.l3), (.int .u64 c2.l4)] rfl rfl rfl Tryd.underlying30 rfl sz30 rfl) ?_
  refine E_call 20 rfl rfl rfl rfl (v := c5.v) (g_call pc5 rfl rfl rfl Tryd.func10 nm10 bd10) ?_
  refine E_val 21 rfl rfl rfl rfl (v := (.agg #[(.int .u64 u.l0), (.int .u64 u.l1), (.int .u64 u.l2), (.int .u64 u.l3), (.int .u64 u.l4)])) (g_loadRow 4 [(.int .u64 u.l0), (.int .u64 u.l1), (.int .u64 u.l2), (.int .u64 u.l3), (.int .u64 u.l4)] rfl rfl rfl Tryd.underlying30 rfl sz30 rfl) ?_
  refine E_val 22 rfl rfl rfl rfl (v := (.agg #[(.int .u64 c4.l0), (.int .u64 c4.l1), (.int .u64 c4.l2), (.int .u64 c4.l3), (.int .u64 c4.l4)])) (g_loadRow 0 [(.int .u64 c4.l0), (.int .u64 c4.l1), (.int .u64 c4.l2), (.int .u64 c4.l3), (.int .u64 c4.l4)] rfl rfl rfl Tryd.underlying30 rfl sz30 rfl) ?_
  refine E_call 23 rfl rfl rfl rfl (v := c6.v) (g_call pc6 rfl rfl rfl Tryd.func10 nm10 bd10) ?_
  refine E_call 24 rfl rfl rfl rfl (v := c7.v) (g_call pc7 rfl rfl rfl Tryd.func27 nm27 bd27) ?_
  refine E_call 25 rfl rfl rfl rfl (v := c8.v) (g_call pc8 rfl rfl rfl Tryd.func10 nm10 bd10) ?_
  refine E_skip rfl ?_
  refine E_nil ?_
  refine ⟨?_, fun β3 w hM => ?_⟩
  · skip
    refine M_val rfl ?_
    refine M_val rfl ?_
    refine M_val rfl ?_
    refine M_val rfl ?_
    refine M_val rfl ?_
    refine M_val rfl ?_
    refine M_val rfl ?_
    refine M_val rfl ?_
    refine M_alloc rfl rfl (runs_alloc rfl Tryd.zeroValue30 rfl) ?_
    exact M_nil
  replace hM : Mem _ _ w [⟨(β3 8), #[(.int .u64 0), (.int .u64 0), (.int .u64 0), (.int .u64 0), (.int .u64 0)], 30, true⟩, ⟨(β2 4), #[(.int .u64 c4.l0), (.int .u64 c4.l1), (.int .u64 c4.l2), (.int .u64 c4.l3), (.int .u64 c4.l4)], 30, true⟩, ⟨(β1 4), #[(.int .u64 c2.l0), (.int .u64 c2.l1), (.int .u64 c2.l2), (.int .u64 c2.l3), (.int .u64 c2.l4)], 30, true⟩, ⟨b2, #[(.int .u64 0), (.int .u64 0), (.int .u64 0), (.int .u64 0), (.int .u64 0)], 30, true⟩, ⟨b1, #[(.int .u64 v.l0), (.int .u64 v.l1), (.int .u64 v.l2), (.int .u64 v.l3), (.int .u64 v.l4)], 30, true⟩, ⟨b0, #[(.int .u64 u.l0), (.int .u64 u.l1), (.int .u64 u.l2), (.int .u64 u.l3), (.int .u64 u.l4)], 30, true⟩] := hM
  show wpList _ _ _ (_ :: _) (putAll _ ((8, _) :: _)) _
  refine T_store 0 hn hM rfl rfl rfl rfl rfl rfl rfl (c' := #[(.int .u64 c8.l0), (.int .u64 c8.l1), (.int .u64 c8.l2), (.int .u64 c8.l3), (.int .u64 c8.l4)]) (sets_row sz30 rfl rfl rfl) (fun w hM => ?_)
  replace hM : Mem _ _ w [⟨(β3 8), #[(.int .u64 c8.l0), (.int .u64 c8.l1), (.int .u64 c8.l2), (.int .u64 c8.l3), (.int .u64 c8.l4)], 30, true⟩, ⟨(β2 4), #[(.int .u64 c4.l0), (.int .u64 c4.l1), (.int .u64 c4.l2), (.int .u64 c4.l3), (.int .u64 c4.l4)], 30, true⟩, ⟨(β1 4), #[(.int .u64 c2.l0), (.int .u64 c2.l1), (.int .u64 c2.l2), (.int .u64 c2.l3), (.int .u64 c2.l4)], 30, true⟩, ⟨b2, #[(.int .u64 0), (.int .u64 0), (.int .u64 0), (.int .u64 0), (.int .u64 0)], 30, true⟩, ⟨b1, #[(.int .u64 v.l0), (.int .u64 v.l1), (.int .u64 v.l2), (.int .u64 v.l3), (.int .u64 v.l4)], 30, true⟩, ⟨b0, #[(.int .u64 u.l0), (.int .u64 u.l1), (.int .u64 u.l2), (.int .u64 u.l3), (.int .u64 u.l4)], 30, true⟩] := hM
  refine T_nil ?_
  refine wp_seq ?_
  refine wp_seq ?_
  refine R_any [.val, .val, .val, .val, .alloc] 5 [⟨4, #[(.int .u64 0), (.int .u64 0), (.int .u64 0), (.int .u64 0), (.int .u64 0)], #[(.int .u64 0), (.int .u64 0), (.int .u64 0), (.int .u64 0), (.int .u64 0)], 30⟩] [(4, 9)] hn hM rfl (by kernel_rfl) (by kernel_rfl) rfl rfl rfl ?_
  refine E_val 26 rfl rfl rfl rfl (v := (.agg #[(.int .u64 c8.l0), (.int .u64 c8.l1), (.int .u64 c8.l2), (.int .u64 c8.l3), (.int .u64 c8.l4)])) (g_loadRow 0 [(.int .u64 c8.l0), (.int .u64 c8.l1), (.int .u64 c8.l2), (.int .u64 c8.l3), (.int .u64 c8.l4)] rfl rfl rfl Tryd.underlying30 rfl sz30 rfl) ?_
  refine E_call 27 rfl rfl rfl rfl (v := c9.v) (g_call pc9 rfl rfl rfl Tryd.func45 nm45 bd45) ?_
  refine E_val 28 rfl rfl rfl rfl (v := (.agg #[(.int .u64 v.l0), (.int .u64 v.l1), (.int .u64 v.l2), (.int .u64 v.l3), (.int .u64 v.l4)])) (g_loadRow 4 [(.int .u64 v.l0), (.int .u64 v.l1), (.int .u64 v.l2), (.int .u64 v.l3), (.int .u64 v.l4)] rfl rfl rfl Tryd.underlying30 rfl sz30 rfl) ?_
  refine E_call 29 rfl rfl rfl rfl (v := c10.v) (g_call pc10 rfl rfl rfl Tryd.func10 nm10 bd10) ?_
  refine E_skip rfl ?_
  refine E_nil ?_
  refine ⟨?_, fun β4 w hM => ?_⟩
  · skip
    refine M_val rfl ?_
    refine M_val rfl ?_
    refine M_val rfl ?_
    refine M_val rfl ?_
    refine M_alloc rfl rfl (runs_alloc rfl Tryd.zeroValue30 rfl) ?_
    exact M_nil
  replace hM : Mem _ _ w [⟨(β4 4), #[(.int .u64 0), (.int .u64 0), (.int .u64 0), (.int .u64 0), (.int .u64 0)], 30, true⟩, ⟨(β3 8), #[(.int .u64 c8.l0), (.int .u64 c8.l1), (.int .u64 c8.l2), (.int .u64 c8.l3), (.int .u64 c8.l4)], 30, true⟩, ⟨(β2 4), #[(.int .u64 c4.l0), (.int .u64 c4.l1), (.int .u64 c4.l2), (.int .u64 c4.l3), (.int .u64 c4.l4)], 30, true⟩, ⟨(β1 4), #[(.int .u64 c2.l0), (.int .u64 c2.l1), (.int .u64 c2.l2), (.int .u64 c2.l3), (.int .u64 c2.l4)], 30, true⟩, ⟨b2, #[(.int .u64 0), (.int .u64 0), (.int .u64 0), (.int .u64 0), (.int .u64 0)], 30, true⟩, ⟨b1, #[(.int .u64 v.l0), (.int .u64 v.l1), (.int .u64 v.l2), (.int .u64 v.l3), (.int .u64 v.l4)], 30, true⟩, ⟨b0, #[(.int .u64 u.l0), (.int .u64 u.l1), (.int .u64 u.l2), (.int .u64 u.l3), (.int .u64 u.l4)], 30, true⟩] := hM
  show wpList _ _ _ (_ :: _) (putAll _ ((9, _) :: _)) _
  refine T_store 0 hn hM rfl rfl rfl rfl rfl rfl rfl (c' := #[(.int .u64 c10.l0), (.int .u64 c10.l1), (.int .u64 c10.l2), (.int .u64 c10.l3), (.int .u64 c10.l4)]) (sets_row sz30 rfl rfl rfl) (fun w hM => ?_)
  replace hM : Mem _ _ w [⟨(β4 4), #[(.int .u64 c10.l0), (.int .u64 c10.l1), (.int .u64 c10.l2), (.int .u64 c10.l3), (.int .u64 c10.l4)], 30, true⟩, ⟨(β3 8), #[(.int .u64 c8.l0), (.int .u64 c8.l1), (.int .u64 c8.l2), (.int .u64 c8.l3), (.int .u64 c8.l4)], 30, true⟩, ⟨(β2 4), #[(.int .u64 c4.l0), (.int .u64 c4.l1), (.int .u64 c4.l2), (.int .u64 c4.l3), (.int .u64 c4.l4)], 30, true⟩, ⟨(β1 4), #[(.int .u64 c2.l0), (.int .u64 c2.l1), (.int .u64 c2.l2), (.int .u64 c2.l3), (.int .u64 c2.l4)], 30, true⟩, ⟨b2, #[(.int .u64 0), (.int .u64 0), (.int .u64 0), (.int .u64 0), (.int .u64 0)], 30, true⟩, ⟨b1, #[(.int .u64 v.l0), (.int .u64 v.l1), (.int .u64 v.l2), (.int .u64 v.l3), (.int .u64 v.l4)], 30, true⟩, ⟨b0, #[(.int .u64 u.l0), (.int .u64 u.l1), (.int .u64 u.l2), (.int .u64 u.l3), (.int .u64 u.l4)], 30, true⟩] := hM
  refine T_nil ?_
  refine wp_block ?_
  refine wp_seq ?_
  refine wp_region_lit ?_
  refine T_val 32 hn hM rfl rfl rfl (v := (.agg #[(.int .u64 c10.l0), (.int .u64 c10.l1), (.int .u64 c10.l2), (.int .u64 c10.l3), (.int .u64 c10.l4)])) (g_loadRow 0 [(.int .u64 c10.l0), (.int .u64 c10.l1), (.int .u64 c10.l2), (.int .u64 c10.l3), (.int .u64 c10.l4)] rfl rfl rfl Tryd.underlying30 rfl sz30 rfl) ?_
  refine T_val 33 hn hM rfl rfl rfl (v := (.agg #[(.int .u64 u.l0), (.int .u64 u.l1), (.int .u64 u.l2), (.int .u64 u.l3), (.int .u64 u.l4)])) (g_loadRow 6 [(.int .u64 u.l0), (.int .u64 u.l1), (.int .u64 u.l2), (.int .u64 u.l3), (.int .u64 u.l4)] rfl rfl rfl Tryd.underlying30 rfl sz30 rfl) ?_
  refine T_call 34 hn hM rfl rfl rfl (v := (.bool false)) (g_call ps11 rfl rfl rfl Tryd.func63 nm63 bd63) (fun w hM => ?_)
  refine T_val 31 hn hM rfl rfl rfl (v := (.bool false)) (g_assign rfl rfl) ?_
  refine T_nil ?_
  refine C_condF hn rfl rfl ?_
  refine wp_seq ?_
  refine R_any [.val, .val, .val] 3 [] [] hn hM rfl (by kernel_rfl) (by kernel_rfl) rfl rfl rfl ?_
  refine E_val 36 rfl rfl rfl rfl (v := (.agg #[(.int .u64 c10.l0), (.int .u64 c10.l1), (.int .u64 c10.l2), (.int .u64 c10.l3), (.int .u64 c10.l4)])) (g_loadRow 0 [(.int .u64 c10.l0), (.int .u64 c10.l1), (.int .u64 c10.l2), (.int .u64 c10.l3), (.int .u64 c10.l4)] rfl rfl rfl Tryd.underlying30 rfl sz30 rfl) ?_
  refine E_val 37 rfl rfl rfl rfl (v := (.agg #[(.int .u64 u.l0), (.int .u64 u.l1), (.int .u64 u.l2), (.int .u64 u.l3), (.int .u64 u.l4)])) (g_loadRow 6 [(.int .u64 u.l0), (.int .u64 u.l1), (.int .u64 u.l2), (.int .u64 u.l3), (.int .u64 u.l4)] rfl rfl rfl Tryd.underlying30 rfl sz30 rfl) ?_
  refine E_call 38 rfl rfl rfl rfl (v := c12.v) (g_call pc12 rfl rfl rfl Tryd.func38 nm38 bd38) ?_
  refine E_nil ?_
  refine ⟨?_, fun β5 w hM => ?_⟩
  · skip
    refine M_val rfl ?_
    refine M_val rfl ?_
    refine M_val rfl ?_
    exact M_nil
  show wpList _ _ _ (_ :: _) (putAll _ (_)) _
  refine T_call 39 hn hM rfl rfl rfl (v := (.bool false)) (g_call ps13 rfl rfl rfl Tryd.func63 nm63 bd63) (fun w hM => ?_)
  refine T_val 35 hn hM rfl rfl rfl (v := (.bool false)) (g_assign rfl rfl) ?_
  refine T_nil ?_
  refine C_condF hn rfl rfl ?_
  refine wp_seq ?_
  refine wp_region_lit ?_
  refine T_val 30 hn hM rfl rfl rfl (v := (.agg #[(.int .u64 0), (.int .u64 0), (.int .u64 0), (.int .u64 0), (.int .u64 0)])) (g_build rfl (by kernel_rfl)) ?_
  refine T_store 4 hn hM rfl rfl rfl rfl rfl rfl rfl (c' := #[(.int .u64 0), (.int .u64 0), (.int .u64 0), (.int .u64 0), (.int .u64 0)]) (sets_row sz30 rfl rfl rfl) (fun w hM => ?_)
  replace hM : Mem _ _ w [⟨(β4 4), #[(.int .u64 c10.l0), (.int .u64 c10.l1), (.int .u64 c10.l2), (.int .u64 c10.l3), (.int .u64 c10.l4)], 30, true⟩, ⟨(β3 8), #[(.int .u64 c8.l0), (.int .u64 c8.l1), (.int .u64 c8.l2), (.int .u64 c8.l3), (.int .u64 c8.l4)], 30, true⟩, ⟨(β2 4), #[(.int .u64 c4.l0), (.int .u64 c4.l1), (.int .u64 c4.l2), (.int .u64 c4.l3), (.int .u64 c4.l4)], 30, true⟩, ⟨(β1 4), #[(.int .u64 c2.l0), (.int .u64 c2.l1), (.int .u64 c2.l2), (.int .u64 c2.l3), (.int .u64 c2.l4)], 30, true⟩, ⟨b2, #[(.int .u64 0), (.int .u64 0), (.int .u64 0), (.int .u64 0), (.int .u64 0)], 30, true⟩, ⟨b1, #[(.int .u64 v.l0), (.int .u64 v.l1), (.int .u64 v.l2), (.int .u64 v.l3), (.int .u64 v.l4)], 30, true⟩, ⟨b0, #[(.int .u64 u.l0), (.int .u64 u.l1), (.int .u64 u.l2), (.int .u64 u.l3), (.int .u64 u.l4)], 30, true⟩] := hM
  refine T_val 5 hn hM rfl rfl rfl (v := (.bool false)) (g_assign rfl rfl) ?_
  refine T_nil ?_
  refine wp_ret ?_
  refine x_ret ?_
  refine x_thenR ?_
  refine leave (.inl rfl) hn hdf hM rfl Tryd.results56 (vs := [(.agg #[(.int .u64 0), (.int .u64 0), (.int .u64 0), (.int .u64 0), (.int .u64 0)]), (.bool false)]) (.row 4 rfl rfl Tryd.underlying30 rfl sz30 (.tmp 5 rfl .nil)) ?_
  exact ⟨rfl, hM.done⟩

end Go.Proofs.YtbonnnakebfniaaDoor
