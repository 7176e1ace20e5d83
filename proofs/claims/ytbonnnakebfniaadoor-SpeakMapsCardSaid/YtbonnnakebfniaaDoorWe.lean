/- edsign: zero, flat, across, add, begin. -/
import Derived.Test.YtbonnnakebfniaaDoorRt
namespace Go.Proofs.YtbonnnakebfniaaDoor
open Go Go.RowKit Num Mx

abbrev ptV (x y z t : El) : Value := .agg #[.int .u64 x.l0, .int .u64 x.l1, .int .u64 x.l2, .int .u64 x.l3, .int .u64 x.l4, .int .u64 y.l0, .int .u64 y.l1, .int .u64 y.l2, .int .u64 y.l3, .int .u64 y.l4, .int .u64 z.l0, .int .u64 z.l1, .int .u64 z.l2, .int .u64 z.l3, .int .u64 z.l4, .int .u64 t.l0, .int .u64 t.l1, .int .u64 t.l2, .int .u64 t.l3, .int .u64 t.l4]
abbrev cvA (d e x y z t : El) : Array Value := #[.int .u64 d.l0, .int .u64 d.l1, .int .u64 d.l2, .int .u64 d.l3, .int .u64 d.l4, .int .u64 e.l0, .int .u64 e.l1, .int .u64 e.l2, .int .u64 e.l3, .int .u64 e.l4, .int .u64 x.l0, .int .u64 x.l1, .int .u64 x.l2, .int .u64 x.l3, .int .u64 x.l4, .int .u64 y.l0, .int .u64 y.l1, .int .u64 y.l2, .int .u64 y.l3, .int .u64 y.l4, .int .u64 z.l0, .int .u64 z.l1, .int .u64 z.l2, .int .u64 z.l3, .int .u64 z.l4, .int .u64 t.l0, .int .u64 t.l1, .int .u64 t.l2, .int .u64 t.l3, .int .u64 t.l4]


theorem sz49 : (Tryd.prog.info? 49).map (·.size) = some 20 := by kernel_rfl

set_option maxHeartbeats 1000000 in
set_option maxRecDepth 100000 in
theorem zeroP_E : Pure 41 #[] (ptV ⟨0, 0, 0, 0, 0⟩ ⟨1, 0, 0, 0, 0⟩ ⟨1, 0, 0, 0, 0⟩ ⟨0, 0, 0, 0, 0⟩) := fun w => by
  refine enter Tryd.func41 rfl Tryd.ntmps41 (Nat.le_of_ble_eq_true rfl) fun A hn hdf => ?_
  have hM : Mem w [] w [] := Mem.start w
  replace hM := hM
  refine wp_seq ?_
  refine wp_region_lit ?_
  refine T_alloc 0 hn hM rfl rfl rfl rfl Tryd.zeroValue49 #[(.int .u64 0), (.int .u64 0), (.int .u64 0), (.int .u64 0), (.int .u64 0), (.int .u64 0), (.int .u64 0), (.int .u64 0), (.int .u64 0), (.int .u64 0), (.int .u64 0), (.int .u64 0), (.int .u64 0), (.int .u64 0), (.int .u64 0), (.int .u64 0), (.int .u64 0), (.int .u64 0), (.int .u64 0), (.int .u64 0)] rfl (fun b0 w hM => ?_)
  refine T_nil ?_
  refine wp_seq ?_
  refine wp_region_lit ?_
  refine T_val 1 hn hM rfl rfl rfl (v := (.agg #[(.int .u64 0), (.int .u64 0), (.int .u64 0), (.int .u64 0), (.int .u64 0)])) (g_build rfl (by kernel_rfl)) ?_
  refine T_call 2 hn hM rfl rfl rfl (v := (⟨1, 0, 0, 0, 0⟩ : El).v) (g_call (small_E 1 (by decide)).2 rfl rfl rfl Tryd.func8 nm8 bd8) (fun w hM => ?_)
  refine T_call 3 hn hM rfl rfl rfl (v := (⟨1, 0, 0, 0, 0⟩ : El).v) (g_call (small_E 1 (by decide)).2 rfl rfl rfl Tryd.func8 nm8 bd8) (fun w hM => ?_)
  refine T_val 4 hn hM rfl rfl rfl (v := (.agg #[(.int .u64 0), (.int .u64 0), (.int .u64 0), (.int .u64 0), (.int .u64 0)])) (g_build rfl (by kernel_rfl)) ?_
  refine T_val 5 hn hM rfl rfl rfl (v := (.agg #[(.int .u64 0), (.int .u64 0), (.int .u64 0), (.int .u64 0), (.int .u64 0), (.int .u64 1), (.int .u64 0), (.int .u64 0), (.int .u64 0), (.int .u64 0), (.int .u64 1), (.int .u64 0), (.int .u64 0), (.int .u64 0), (.int .u64 0), (.int .u64 0), (.int .u64 0), (.int .u64 0), (.int .u64 0), (.int .u64 0)])) (g_build rfl (by kernel_rfl)) ?_
  refine T_store 0 hn hM rfl rfl rfl rfl rfl rfl rfl (c' := #[(.int .u64 0), (.int .u64 0), (.int .u64 0), (.int .u64 0), (.int .u64 0), (.int .u64 1), (.int .u64 0), (.int .u64 0), (.int .u64 0), (.int .u64 0), (.int .u64 1), (.int .u64 0), (.int .u64 0), (.int .u64 0), (.int .u64 0), (.int .u64 0), (.int .u64 0), (.int .u64 0), (.int .u64 0), (.int .u64 0)]) (sets_row sz49 rfl rfl rfl) (fun w hM => ?_)
  replace hM : Mem _ _ w [⟨b0, #[(.int .u64 0), (.int .u64 0), (.int .u64 0), (.int .u64 0), (.int .u64 0), (.int .u64 1), (.int .u64 0), (.int .u64 0), (.int .u64 0), (.int .u64 0), (.int .u64 1), (.int .u64 0), (.int .u64 0), (.int .u64 0), (.int .u64 0), (.int .u64 0), (.int .u64 0), (.int .u64 0), (.int .u64 0), (.int .u64 0)], 49, true⟩] := hM
  refine T_nil ?_
  refine wp_ret ?_
  refine leave (.inl rfl) hn hdf hM rfl Tryd.results41 (vs := [(.agg #[(.int .u64 0), (.int .u64 0), (.int .u64 0), (.int .u64 0), (.int .u64 0), (.int .u64 1), (.int .u64 0), (.int .u64 0), (.int .u64 0), (.int .u64 0), (.int .u64 1), (.int .u64 0), (.int .u64 0), (.int .u64 0), (.int .u64 0), (.int .u64 0), (.int .u64 0), (.int .u64 0), (.int .u64 0), (.int .u64 0)])]) (.row 0 rfl rfl Tryd.underlying49 rfl sz49 .nil) ?_
  exact ⟨rfl, hM.done⟩


set_option maxHeartbeats 1000000 in
set_option maxRecDepth 100000 in
theorem flat_E {x y : El} {fx fy : F} (hx : IsL x fx) (hy : IsL y fy) : ∃ t : El, IsL t (fx * fy) ∧ Pure 40 #[x.v, y.v] (ptV x y ⟨1, 0, 0, 0, 0⟩ t) := by
  obtain ⟨c1, hc1, pc1⟩ := mul_E hx hy
  refine ⟨c1, hc1, fun w => ?_⟩
  refine enter Tryd.func40 rfl Tryd.ntmps40 (Nat.le_of_ble_eq_true rfl) fun A hn hdf => ?_
  have hM : Mem w [] w [] := Mem.start w
  replace hM := hM
  refine wp_seq ?_
  refine wp_region_lit ?_
  refine T_box 2 hn hM rfl rfl rfl rfl rfl #[(.int .u64 x.l0), (.int .u64 x.l1), (.int .u64 x.l2), (.int .u64 x.l3), (.int .u64 x.l4)] rfl (fun b0 w hM => ?_)
  refine T_box 3 hn hM rfl rfl rfl rfl rfl #[(.int .u64 y.l0), (.int .u64 y.l1), (.int .u64 y.l2), (.int .u64 y.l3), (.int .u64 y.l4)] rfl (fun b1 w hM => ?_)
  refine T_alloc 4 hn hM rfl rfl rfl rfl Tryd.zeroValue49 #[(.int .u64 0), (.int .u64 0), (.int .u64 0), (.int .u64 0), (.int .u64 0), (.int .u64 0), (.int .u64 0), (.int .u64 0), (.int .u64 0), (.int .u64 0), (.int .u64 0), (.int .u64 0), (.int .u64 0), (.int .u64 0), (.int .u64 0), (.int .u64 0), (.int .u64 0), (.int .u64 0), (.int .u64 0), (.int .u64 0)] rfl (fun b2 w hM => ?_)
  refine T_nil ?_
  refine wp_seq ?_
  refine R_any [.val, .val, .val, .val, .val, .val] 6 [] [] hn hM rfl (by kernel_rfl) (by kernel_rfl) rfl rfl rfl ?_
  refine E_val 5 rfl rfl rfl rfl (v := (.agg #[(.int .u64 x.l0), (.int .u64 x.l1), (.int .u64 x.l2), (.int .u64 x.l3), (.int .u64 x.l4)])) (g_loadRow 2 [(.int .u64 x.l0), (.int .u64 x.l1), (.int .u64 x.l2), (.int .u64 x.l3), (.int .u64 x.l4)] rfl rfl rfl Tryd.underlying30 rfl sz30 rfl) ?_
  refine E_val 6 rfl rfl rfl rfl (v := (.agg #[(.int .u64 y.l0), (.int .u64 y.l1), (.int .u64 y.l2), (.int .u64 y.l3), (.int .u64 y.l4)])) (g_loadRow 1 [(.int .u64 y.l0), (.int .u64 y.l1), (.int .u64 y.l2), (.int .u64 y.l3), (.int .u64 y.l4)] rfl rfl rfl Tryd.underlying30 rfl sz30 rfl) ?_
  refine E_call 7 rfl rfl rfl rfl (v := (⟨1, 0, 0, 0, 0⟩ : El).v) (g_call (small_E 1 (by decide)).2 rfl rfl rfl Tryd.func8 nm8 bd8) ?_
  refine E_val 8 rfl rfl rfl rfl (v := (.agg #[(.int .u64 x.l0), (.int .u64 x.l1), (.int .u64 x.l2), (.int .u64 x.l3), (.int .u64 x.l4)])) (g_loadRow 2 [(.int .u64 x.l0), (.int .u64 x.l1), (.int .u64 x.l2), (.int .u64 x.l3), (.int .u64 x.l4)] rfl rfl rfl Tryd.underlying30 rfl sz30 rfl) ?_
  refine E_val 9 rfl rfl rfl rfl (v := (.agg #[(.int .u64 y.l0), (.int .u64 y.l1), (.int .u64 y.l2), (.int .u64 y.l3), (.int .u64 y.l4)])) (g_loadRow 1 [(.int .u64 y.l0), (.int .u64 y.l1), (.int .u64 y.l2), (.int .u64 y.l3), (.int .u64 y.l4)] rfl rfl rfl Tryd.underlying30 rfl sz30 rfl) ?_
  refine E_call 10 rfl rfl rfl rfl (v := c1.v) (g_call pc1 rfl rfl rfl Tryd.func10 nm10 bd10) ?_
  refine E_nil ?_
  refine ⟨?_, fun β1 w hM => ?_⟩
  · skip
    refine M_val rfl ?_
    refine M_val rfl ?_
    refine M_val rfl ?_
    refine M_val rfl ?_
    refine M_val rfl ?_
    refine M_val rfl ?_
    exact M_nil
  show wpList _ _ _ (_ :: _) (putAll _ (_)) _
  refine T_val 11 hn hM rfl rfl rfl (v := (.agg #[(.int .u64 x.l0), (.int .u64 x.l1), (.int .u64 x.l2), (.int .u64 x.l3), (.int .u64 x.l4), (.int .u64 y.l0), (.int .u64 y.l1), (.int .u64 y.l2), (.int .u64 y.l3), (.int .u64 y.l4), (.int .u64 1), (.int .u64 0), (.int .u64 0), (.int .u64 0), (.int .u64 0), (.int .u64 c1.l0), (.int .u64 c1.l1), (.int .u64 c1.l2), (.int .u64 c1.l3), (.int .u64 c1.l4)])) (g_build rfl (by kernel_rfl)) ?_
  refine T_store 0 hn hM rfl rfl rfl rfl rfl rfl rfl (c' := #[(.int .u64 x.l0), (.int .u64 x.l1), (.int .u64 x.l2), (.int .u64 x.l3), (.int .u64 x.l4), (.int .u64 y.l0), (.int .u64 y.l1), (.int .u64 y.l2), (.int .u64 y.l3), (.int .u64 y.l4), (.int .u64 1), (.int .u64 0), (.int .u64 0), (.int .u64 0), (.int .u64 0), (.int .u64 c1.l0), (.int .u64 c1.l1), (.int .u64 c1.l2), (.int .u64 c1.l3), (.int .u64 c1.l4)]) (sets_row sz49 rfl rfl rfl) (fun w hM => ?_)
  replace hM : Mem _ _ w [⟨b2, #[(.int .u64 x.l0), (.int .u64 x.l1), (.int .u64 x.l2), (.int .u64 x.l3), (.int .u64 x.l4), (.int .u64 y.l0), (.int .u64 y.l1), (.int .u64 y.l2), (.int .u64 y.l3), (.int .u64 y.l4), (.int .u64 1), (.int .u64 0), (.int .u64 0), (.int .u64 0), (.int .u64 0), (.int .u64 c1.l0), (.int .u64 c1.l1), (.int .u64 c1.l2), (.int .u64 c1.l3), (.int .u64 c1.l4)], 49, true⟩, ⟨b1, #[(.int .u64 y.l0), (.int .u64 y.l1), (.int .u64 y.l2), (.int .u64 y.l3), (.int .u64 y.l4)], 30, true⟩, ⟨b0, #[(.int .u64 x.l0), (.int .u64 x.l1), (.int .u64 x.l2), (.int .u64 x.l3), (.int .u64 x.l4)], 30, true⟩] := hM
  refine T_nil ?_
  refine wp_ret ?_
  refine leave (.inl rfl) hn hdf hM rfl Tryd.results40 (vs := [(.agg #[(.int .u64 x.l0), (.int .u64 x.l1), (.int .u64 x.l2), (.int .u64 x.l3), (.int .u64 x.l4), (.int .u64 y.l0), (.int .u64 y.l1), (.int .u64 y.l2), (.int .u64 y.l3), (.int .u64 y.l4), (.int .u64 1), (.int .u64 0), (.int .u64 0), (.int .u64 0), (.int .u64 0), (.int .u64 c1.l0), (.int .u64 c1.l1), (.int .u64 c1.l2), (.int .u64 c1.l3), (.int .u64 c1.l4)])]) (.row 0 rfl rfl Tryd.underlying49 rfl sz49 .nil) ?_
  exact ⟨rfl, hM.done⟩

theorem nm9 : (Tryd.f9.name == "runtime.NumGoroutine") = false := by kernel_rfl
theorem bd9 : Tryd.f9.body.isNone = false := by kernel_rfl
theorem nm11 : (Tryd.f11.name == "runtime.NumGoroutine") = false := by kernel_rfl
theorem bd11 : Tryd.f11.body.isNone = false := by kernel_rfl
theorem nm56 : (Tryd.f56.name == "runtime.NumGoroutine") = false := by kernel_rfl
theorem bd56 : Tryd.f56.body.isNone = false := by kernel_rfl

set_option maxHeartbeats 1000000 in
set_option maxRecDepth 100000 in
theorem across_E {d e x0 y0 z0 t0 : El} {y : El} {fd fy : F} (hd : IsL d fd) (hy : IsL y fy) : ∃ c : El, IsL c (rootV ((fy * fy) - (toF 1)) ((fd * (fy * fy)) + (toF 1))).1 ∧ ∀ w bc, w.heap[bc]? = some (.cells (cvA d e x0 y0 z0 t0) 55 (0, 0)) → Calls Tryd.prog 39 #[.pointer (some ⟨bc, 0, none⟩), y.v] w fun e w' => e = .returned (.tuple #[c.v, (.bool ((rootV ((fy * fy) - (toF 1)) ((fd * (fy * fy)) + (toF 1))).2))]) ∧ Below w.heap.size w w' := by
  obtain ⟨c1, hc1, pc1⟩ := sq_E hy
  obtain ⟨c2, hc2, pc2⟩ := sub_E hc1 (small_E 1 (by decide)).1
  obtain ⟨c3, hc3, pc3⟩ := mul_E hd hc1
  obtain ⟨c4, hc4, pc4⟩ := add_E hc3 (small_E 1 (by decide)).1
  obtain ⟨c5, hc5, pc5⟩ := root_E hc2 hc4
  refine ⟨c5, hc5, fun w bc hcv => ?_⟩
  refine enter Tryd.func39 rfl Tryd.ntmps39 (Nat.le_of_ble_eq_true rfl) fun A hn hdf => ?_
  have hM : Mem w [] w [⟨bc, #[(.int .u64 d.l0), (.int .u64 d.l1), (.int .u64 d.l2), (.int .u64 d.l3), (.int .u64 d.l4), (.int .u64 e.l0), (.int .u64 e.l1), (.int .u64 e.l2), (.int .u64 e.l3), (.int .u64 e.l4), (.int .u64 x0.l0), (.int .u64 x0.l1), (.int .u64 x0.l2), (.int .u64 x0.l3), (.int .u64 x0.l4), (.int .u64 y0.l0), (.int .u64 y0.l1), (.int .u64 y0.l2), (.int .u64 y0.l3), (.int .u64 y0.l4), (.int .u64 z0.l0), (.int .u64 z0.l1), (.int .u64 z0.l2), (.int .u64 z0.l3), (.int .u64 z0.l4), (.int .u64 t0.l0), (.int .u64 t0.l1), (.int .u64 t0.l2), (.int .u64 t0.l3), (.int .u64 t0.l4)], 55, false⟩] := Mem.read1 w hcv
  replace hM := hM
  refine wp_seq ?_
  refine wp_region_lit ?_
  refine T_box 3 hn hM rfl rfl rfl rfl rfl #[(.int .u64 y.l0), (.int .u64 y.l1), (.int .u64 y.l2), (.int .u64 y.l3), (.int .u64 y.l4)] rfl (fun b0 w hM => ?_)
  refine T_alloc 4 hn hM rfl rfl rfl rfl Tryd.zeroValue30 #[(.int .u64 0), (.int .u64 0), (.int .u64 0), (.int .u64 0), (.int .u64 0)] rfl (fun b1 w hM => ?_)
  refine T_val 5 hn hM rfl rfl rfl (v := (.bool false)) (g_assign rfl rfl) ?_
  refine T_nil ?_
  refine wp_seq ?_
  refine wp_region_lit ?_
  refine T_val 7 hn hM rfl rfl rfl (v := (.agg #[(.int .u64 y.l0), (.int .u64 y.l1), (.int .u64 y.l2), (.int .u64 y.l3), (.int .u64 y.l4)])) (g_loadRow 1 [(.int .u64 y.l0), (.int .u64 y.l1), (.int .u64 y.l2), (.int .u64 y.l3), (.int .u64 y.l4)] rfl rfl rfl Tryd.underlying30 rfl sz30 rfl) ?_
  refine T_call 8 hn hM rfl rfl rfl (v := c1.v) (g_call pc1 rfl rfl rfl Tryd.func45 nm45 bd45) (fun w hM => ?_)
  refine T_alloc 6 hn hM rfl rfl rfl rfl Tryd.zeroValue30 #[(.int .u64 0), (.int .u64 0), (.int .u64 0), (.int .u64 0), (.int .u64 0)] rfl (fun b2 w hM => ?_)
  refine T_store 0 hn hM rfl rfl rfl rfl rfl rfl rfl (c' := #[(.int .u64 c1.l0), (.int .u64 c1.l1), (.int .u64 c1.l2), (.int .u64 c1.l3), (.int .u64 c1.l4)]) (sets_row sz30 rfl rfl rfl) (fun w hM => ?_)
  replace hM : Mem _ _ w [⟨b2, #[(.int .u64 c1.l0), (.int .u64 c1.l1), (.int .u64 c1.l2), (.int .u64 c1.l3), (.int .u64 c1.l4)], 30, true⟩, ⟨b1, #[(.int .u64 0), (.int .u64 0), (.int .u64 0), (.int .u64 0), (.int .u64 0)], 30, true⟩, ⟨b0, #[(.int .u64 y.l0), (.int .u64 y.l1), (.int .u64 y.l2), (.int .u64 y.l3), (.int .u64 y.l4)], 30, true⟩, ⟨bc, #[(.int .u64 d.l0), (.int .u64 d.l1), (.int .u64 d.l2), (.int .u64 d.l3), (.int .u64 d.l4), (.int .u64 e.l0), (.int .u64 e.l1), (.int .u64 e.l2), (.int .u64 e.l3), (.int .u64 e.l4), (.int .u64 x0.l0), (.int .u64 x0.l1), (.int .u64 x0.l2), (.int .u64 x0.l3), (.int .u64 x0.l4), (.int .u64 y0.l0), (.int .u64 y0.l1), (.int .u64 y0.l2), (.int .u64 y0.l3), (.int .u64 y0.l4), (.int .u64 z0.l0), (.int .u64 z0.l1), (.int .u64 z0.l2), (.int .u64 z0.l3), (.int .u64 z0.l4), (.int .u64 t0.l0), (.int .u64 t0.l1), (.int .u64 t0.l2), (.int .u64 t0.l3), (.int .u64 t0.l4)], 55, false⟩] := hM
  refine T_nil ?_
  refine wp_seq ?_
  refine R_any [.val, .val, .val, .val, .val, .val, .val, .val, .val, .val, .val, .val, .val, .val] 14 [] [] hn hM rfl (by kernel_rfl) (by kernel_rfl) rfl rfl rfl ?_
  refine E_val 9 rfl rfl rfl rfl (v := (.agg #[(.int .u64 c1.l0), (.int .u64 c1.l1), (.int .u64 c1.l2), (.int .u64 c1.l3), (.int .u64 c1.l4)])) (g_loadRow 0 [(.int .u64 c1.l0), (.int .u64 c1.l1), (.int .u64 c1.l2), (.int .u64 c1.l3), (.int .u64 c1.l4)] rfl rfl rfl Tryd.underlying30 rfl sz30 rfl) ?_
  refine E_call 10 rfl rfl rfl rfl (v := (⟨1, 0, 0, 0, 0⟩ : El).v) (g_call (small_E 1 (by decide)).2 rfl rfl rfl Tryd.func8 nm8 bd8) ?_
  refine E_call 11 rfl rfl rfl rfl (v := c2.v) (g_call pc2 rfl rfl rfl Tryd.func11 nm11 bd11) ?_
  refine E_val 12 rfl rfl rfl rfl (v := (.pointer (some ⟨bc, 0, none⟩))) (g_move rfl rfl) ?_
  refine E_val 13 rfl rfl rfl rfl (v := (.pointer (some ⟨bc, 0, none⟩))) (g_nilCheck rfl rfl) ?_
  refine E_val 14 rfl rfl rfl rfl (v := (.pointer (some ⟨bc, 0, none⟩))) (g_fieldAddr rfl rfl Tryd.underlying55 rfl Tryd.sizeOf30 0 rfl) ?_
  refine E_val 15 rfl rfl rfl rfl (v := (.agg #[(.int .u64 d.l0), (.int .u64 d.l1), (.int .u64 d.l2), (.int .u64 d.l3), (.int .u64 d.l4)])) (g_loadRow 3 [(.int .u64 d.l0), (.int .u64 d.l1), (.int .u64 d.l2), (.int .u64 d.l3), (.int .u64 d.l4)] rfl rfl rfl Tryd.underlying30 rfl sz30 rfl) ?_
  refine E_val 16 rfl rfl rfl rfl (v := (.agg #[(.int .u64 c1.l0), (.int .u64 c1.l1), (.int .u64 c1.l2), (.int .u64 c1.l3), (.int .u64 c1.l4)])) (g_loadRow 0 [(.int .u64 c1.l0), (.int .u64 c1.l1), (.int .u64 c1.l2), (.int .u64 c1.l3), (.int .u64 c1.l4)] rfl rfl rfl Tryd.underlying30 rfl sz30 rfl) ?_
  refine E_call 17 rfl rfl rfl rfl (v := c3.v) (g_call pc3 rfl rfl rfl Tryd.func10 nm10 bd10) ?_
  refine E_call 18 rfl rfl rfl rfl (v := (⟨1, 0, 0, 0, 0⟩ : El).v) (g_call (small_E 1 (by decide)).2 rfl rfl rfl Tryd.func8 nm8 bd8) ?_
  refine E_call 19 rfl rfl rfl rfl (v := c4.v) (g_call pc4 rfl rfl rfl Tryd.func9 nm9 bd9) ?_
  refine E_call 20 rfl rfl rfl rfl (v := (.tuple #[c5.v, (.bool ((rootV ((fy * fy) - (toF 1)) ((fd * (fy * fy)) + (toF 1))).2))])) (g_call pc5 rfl rfl rfl Tryd.func56 nm56 bd56) ?_
  refine E_val 21 rfl rfl rfl rfl (v := c5.v) (g_extract rfl rfl rfl) ?_
  refine E_val 22 rfl rfl rfl rfl (v := (.bool ((rootV ((fy * fy) - (toF 1)) ((fd * (fy * fy)) + (toF 1))).2))) (g_extract rfl rfl rfl) ?_
  refine E_nil ?_
  refine ⟨?_, fun β1 w hM => ?_⟩
  · skip
    refine M_val rfl ?_
    refine M_val rfl ?_
    refine M_val rfl ?_
    refine M_val rfl ?_
    refine M_val rfl ?_
    refine M_val rfl ?_
    refine M_val rfl ?_
    refine M_val rfl ?_
    refine M_val rfl ?_
    refine M_val rfl ?_
    refine M_val rfl ?_
    refine M_val rfl ?_
    refine M_val rfl ?_
    refine M_val rfl ?_
    exact M_nil
  show wpList _ _ _ (_ :: _) (putAll _ (_)) _
  refine T_store 1 hn hM rfl rfl rfl rfl rfl rfl rfl (c' := #[(.int .u64 c5.l0), (.int .u64 c5.l1), (.int .u64 c5.l2), (.int .u64 c5.l3), (.int .u64 c5.l4)]) (sets_row sz30 rfl rfl rfl) (fun w hM => ?_)
  replace hM : Mem _ _ w [⟨b2, #[(.int .u64 c1.l0), (.int .u64 c1.l1), (.int .u64 c1.l2), (.int .u64 c1.l3), (.int .u64 c1.l4)], 30, true⟩, ⟨b1, #[(.int .u64 c5.l0), (.int .u64 c5.l1), (.int .u64 c5.l2), (.int .u64 c5.l3), (.int .u64 c5.l4)], 30, true⟩, ⟨b0, #[(.int .u64 y.l0), (.int .u64 y.l1), (.int .u64 y.l2), (.int .u64 y.l3), (.int .u64 y.l4)], 30, true⟩, ⟨bc, #[(.int .u64 d.l0), (.int .u64 d.l1), (.int .u64 d.l2), (.int .u64 d.l3), (.int .u64 d.l4), (.int .u64 e.l0), (.int .u64 e.l1), (.int .u64 e.l2), (.int .u64 e.l3), (.int .u64 e.l4), (.int .u64 x0.l0), (.int .u64 x0.l1), (.int .u64 x0.l2), (.int .u64 x0.l3), (.int .u64 x0.l4), (.int .u64 y0.l0), (.int .u64 y0.l1), (.int .u64 y0.l2), (.int .u64 y0.l3), (.int .u64 y0.l4), (.int .u64 z0.l0), (.int .u64 z0.l1), (.int .u64 z0.l2), (.int .u64 z0.l3), (.int .u64 z0.l4), (.int .u64 t0.l0), (.int .u64 t0.l1), (.int .u64 t0.l2), (.int .u64 t0.l3), (.int .u64 t0.l4)], 55, false⟩] := hM
  refine T_val 5 hn hM rfl rfl rfl (v := (.bool ((rootV ((fy * fy) - (toF 1)) ((fd * (fy * fy)) + (toF 1))).2))) (g_assign rfl rfl) ?_
  refine T_nil ?_
  refine wp_ret ?_
  refine leave (.inl rfl) hn hdf hM rfl Tryd.results39 (vs := [(.agg #[(.int .u64 c5.l0), (.int .u64 c5.l1), (.int .u64 c5.l2), (.int .u64 c5.l3), (.int .u64 c5.l4)]), (.bool ((rootV ((fy * fy) - (toF 1)) ((fd * (fy * fy)) + (toF 1))).2))]) (.row 1 rfl rfl Tryd.underlying30 rfl sz30 (.tmp 5 rfl .nil)) ?_
  exact ⟨rfl, hM.done⟩


set_option maxHeartbeats 1000000 in
set_option maxRecDepth 100000 in
theorem add4_E {d e x0 y0 z0 t0 : El} {px py pz pt qx qy qz qt : El} {fe fpx fpy fpz fpt fqx fqy fqz fqt : F} (he : IsL e fe) (hpx : IsL px fpx) (hpy : IsL py fpy) (hpz : IsL pz fpz) (hpt : IsL pt fpt) (hqx : IsL qx fqx) (hqy : IsL qy fqy) (hqz : IsL qz fqz) (hqt : IsL qt fqt) : ∃ rx ry rz rt : El, IsL rx ((((fpy + fpx) * (fqy + fqx)) - ((fpy - fpx) * (fqy - fqx))) * (((fpz * fqz) + (fpz * fqz)) - ((fpt * fe) * fqt))) ∧ IsL ry ((((fpz * fqz) + (fpz * fqz)) + ((fpt * fe) * fqt)) * (((fpy + fpx) * (fqy + fqx)) + ((fpy - fpx) * (fqy - fqx)))) ∧ IsL rz ((((fpz * fqz) + (fpz * fqz)) - ((fpt * fe) * fqt)) * (((fpz * fqz) + (fpz * fqz)) + ((fpt * fe) * fqt))) ∧ IsL rt ((((fpy + fpx) * (fqy + fqx)) - ((fpy - fpx) * (fqy - fqx))) * (((fpy + fpx) * (fqy + fqx)) + ((fpy - fpx) * (fqy - fqx)))) ∧ ∀ w bc, w.heap[bc]? = some (.cells (cvA d e x0 y0 z0 t0) 55 (0, 0)) → Calls Tryd.prog 43 #[.pointer (some ⟨bc, 0, none⟩), ptV px py pz pt, ptV qx qy qz qt] w fun e w' => e = .returned (ptV rx ry rz rt) ∧ Below w.heap.size w w' := by
  obtain ⟨c1, hc1, pc1⟩ := sub_E hpy hpx
  obtain ⟨c2, hc2, pc2⟩ := sub_E hqy hqx
  obtain ⟨c3, hc3, pc3⟩ := mul_E hc1 hc2
  obtain ⟨c4, hc4, pc4⟩ := add_E hpy hpx
  obtain ⟨c5, hc5, pc5⟩ := add_E hqy hqx
  obtain ⟨c6, hc6, pc6⟩ := mul_E hc4 hc5
  obtain ⟨c7, hc7, pc7⟩ := mul_E hpt he
  obtain ⟨c8, hc8, pc8⟩ := mul_E hc7 hqt
  obtain ⟨c9, hc9, pc9⟩ := mul_E hpz hqz
  obtain ⟨c10, hc10, pc10⟩ := add_E hc9 hc9
  obtain ⟨c11, hc11, pc11⟩ := sub_E hc6 hc3
  obtain ⟨c12, hc12, pc12⟩ := sub_E hc10 hc8
  obtain ⟨c13, hc13, pc13⟩ := add_E hc10 hc8
  obtain ⟨c14, hc14, pc14⟩ := add_E hc6 hc3
  obtain ⟨c15, hc15, pc15⟩ := mul_E hc11 hc12
  obtain ⟨c16, hc16, pc16⟩ := mul_E hc13 hc14
  obtain ⟨c17, hc17, pc17⟩ := mul_E hc12 hc13
  obtain ⟨c18, hc18, pc18⟩ := mul_E hc11 hc14
  refine ⟨c15, c16, c17, c18, hc15, hc16, hc17, hc18, fun w bc hcv => ?_⟩
  refine enter Tryd.func43 rfl Tryd.ntmps43 (Nat.le_of_ble_eq_true rfl) fun A hn hdf => ?_
  have hM : Mem w [] w [⟨bc, #[(.int .u64 d.l0), (.int .u64 d.l1), (.int .u64 d.l2), (.int .u64 d.l3), (.int .u64 d.l4), (.int .u64 e.l0), (.int .u64 e.l1), (.int .u64 e.l2), (.int .u64 e.l3), (.int .u64 e.l4), (.int .u64 x0.l0), (.int .u64 x0.l1), (.int .u64 x0.l2), (.int .u64 x0.l3), (.int .u64 x0.l4), (.int .u64 y0.l0), (.int .u64 y0.l1), (.int .u64 y0.l2), (.int .u64 y0.l3), (.int .u64 y0.l4), (.int .u64 z0.l0), (.int .u64 z0.l1), (.int .u64 z0.l2), (.int .u64 z0.l3), (.int .u64 z0.l4), (.int .u64 t0.l0), (.int .u64 t0.l1), (.int .u64 t0.l2), (.int .u64 t0.l3), (.int .u64 t0.l4)], 55, false⟩] := Mem.read1 w hcv
  replace hM := hM
  refine wp_seq ?_
  refine wp_region_lit ?_
  refine T_box 4 hn hM rfl rfl rfl rfl rfl #[(.int .u64 px.l0), (.int .u64 px.l1), (.int .u64 px.l2), (.int .u64 px.l3), (.int .u64 px.l4), (.int .u64 py.l0), (.int .u64 py.l1), (.int .u64 py.l2), (.int .u64 py.l3), (.int .u64 py.l4), (.int .u64 pz.l0), (.int .u64 pz.l1), (.int .u64 pz.l2), (.int .u64 pz.l3), (.int .u64 pz.l4), (.int .u64 pt.l0), (.int .u64 pt.l1), (.int .u64 pt.l2), (.int .u64 pt.l3), (.int .u64 pt.l4)] rfl (fun b0 w hM => ?_)
  refine T_box 5 hn hM rfl rfl rfl rfl rfl #[(.int .u64 qx.l0), (.int .u64 qx.l1), (.int .u64 qx.l2), (.int .u64 qx.l3), (.int .u64 qx.l4), (.int .u64 qy.l0), (.int .u64 qy.l1), (.int .u64 qy.l2), (.int .u64 qy.l3), (.int .u64 qy.l4), (.int .u64 qz.l0), (.int .u64 qz.l1), (.int .u64 qz.l2), (.int .u64 qz.l3), (.int .u64 qz.l4), (.int .u64 qt.l0), (.int .u64 qt.l1), (.int .u64 qt.l2), (.int .u64 qt.l3), (.int .u64 qt.l4)] rfl (fun b1 w hM => ?_)
  refine T_alloc 6 hn hM rfl rfl rfl rfl Tryd.zeroValue49 #[(.int .u64 0), (.int .u64 0), (.int .u64 0), (.int .u64 0), (.int .u64 0), (.int .u64 0), (.int .u64 0), (.int .u64 0), (.int .u64 0), (.int .u64 0), (.int .u64 0), (.int .u64 0), (.int .u64 0), (.int .u64 0), (.int .u64 0), (.int .u64 0), (.int .u64 0), (.int .u64 0), (.int .u64 0), (.int .u64 0)] rfl (fun b2 w hM => ?_)
  refine T_nil ?_
  refine wp_seq ?_
  refine R_any [.val, .val, .val, .val, .val, .val, .val, .val, .val, .val, .val, .alloc] 12 [⟨11, #[(.int .u64 0), (.int .u64 0), (.int .u64 0), (.int .u64 0), (.int .u64 0)], #[(.int .u64 0), (.int .u64 0), (.int .u64 0), (.int .u64 0), (.int .u64 0)], 30⟩] [(11, 7)] hn hM rfl (by kernel_rfl) (by kernel_rfl) rfl rfl rfl ?_
  refine E_val 15 rfl rfl rfl rfl (v := (.pointer (some ⟨b0, 5, none⟩))) (g_fieldAddr rfl rfl Tryd.underlying49 rfl Tryd.sizeOf30 5 rfl) ?_
  refine E_val 16 rfl rfl rfl rfl (v := (.agg #[(.int .u64 py.l0), (.int .u64 py.l1), (.int .u64 py.l2), (.int .u64 py.l3), (.int .u64 py.l4)])) (g_loadRow 2 [(.int .u64 py.l0), (.int .u64 py.l1), (.int .u64 py.l2), (.int .u64 py.l3), (.int .u64 py.l4)] rfl rfl rfl Tryd.underlying30 rfl sz30 rfl) ?_
  refine E_val 17 rfl rfl rfl rfl (v := (.pointer (some ⟨b0, 0, none⟩))) (g_fieldAddr rfl rfl Tryd.underlying49 rfl Tryd.sizeOf30 0 rfl) ?_
  refine E_val 18 rfl rfl rfl rfl (v := (.agg #[(.int .u64 px.l0), (.int .u64 px.l1), (.int .u64 px.l2), (.int .u64 px.l3), (.int .u64 px.l4)])) (g_loadRow 2 [(.int .u64 px.l0), (.int .u64 px.l1), (.int .u64 px.l2), (.int .u64 px.l3), (.int .u64 px.l4)] rfl rfl rfl Tryd.underlying30 rfl sz30 rfl) ?_
  refine E_call 19 rfl rfl rfl rfl (v := c1.v) (g_call pc1 rfl rfl rfl Tryd.func11 nm11 bd11) ?_
  refine E_val 20 rfl rfl rfl rfl (v := (.pointer (some ⟨b1, 5, none⟩))) (g_fieldAddr rfl rfl Tryd.underlying49 rfl Tryd.sizeOf30 5 rfl) ?_
  refine E_val 21 rfl rfl rfl rfl (v := (.agg #[(.int .u64 qy.l0), (.int .u64 qy.l1), (.int .u64 qy.l2), (.int .u64 qy.l3), (.int .u64 qy.l4)])) (g_loadRow 1 [(.int .u64 qy.l0), (.int .u64 qy.l1), (.int .u64 qy.l2), (.int .u64 qy.l3), (.int .u64 qy.l4)] rfl rfl rfl Tryd.underlying30 rfl sz30 rfl) ?_
  refine E_val 22 rfl rfl rfl rfl (v := (.pointer (some ⟨b1, 0, none⟩))) (g_fieldAddr rfl rfl Tryd.underlying49 rfl Tryd.sizeOf30 0 rfl) ?_
  refine E_val 23 rfl rfl rfl rfl (v := (.agg #[(.int .u64 qx.l0), (.int .u64 qx.l1), (.int .u64 qx.l2), (.int .u64 qx.l3), (.int .u64 qx.l4)])) (g_loadRow 1 [(.int .u64 qx.l0), (.int .u64 qx.l1), (.int .u64 qx.l2), (.int .u64 qx.l3), (.int .u64 qx.l4)] rfl rfl rfl Tryd.underlying30 rfl sz30 rfl) ?_
  refine E_call 24 rfl rfl rfl rfl (v := c2.v) (g_call pc2 rfl rfl rfl Tryd.func11 nm11 bd11) ?_
  refine E_call 25 rfl rfl rfl rfl (v := c3.v) (g_call pc3 rfl rfl rfl Tryd.func10 nm10 bd10) ?_
  refine E_skip rfl ?_
  refine E_nil ?_
  refine ⟨?_, fun β1 w hM => ?_⟩
  · skip
    refine M_val rfl ?_
    refine M_val rfl ?_
    refine M_val rfl ?_
    refine M_val rfl ?_
    refine M_val rfl ?_
    refine M_val rfl ?_
    refine M_val rfl ?_
    refine M_val rfl ?_
    refine M_val rfl ?_
    refine M_val rfl ?_
    refine M_val rfl ?_
    refine M_alloc rfl rfl (runs_alloc rfl Tryd.zeroValue30 rfl) ?_
    exact M_nil
  replace hM : Mem _ _ w [⟨(β1 11), #[(.int .u64 0), (.int .u64 0), (.int .u64 0), (.int .u64 0), (.int .u64 0)], 30, true⟩, ⟨b2, #[(.int .u64 0), (.int .u64 0), (.int .u64 0), (.int .u64 0), (.int .u64 0), (.int .u64 0), (.int .u64 0), (.int .u64 0), (.int .u64 0), (.int .u64 0), (.int .u64 0), (.int .u64 0), (.int .u64 0), (.int .u64 0), (.int .u64 0), (.int .u64 0), (.int .u64 0), (.int .u64 0), (.int .u64 0), (.int .u64 0)], 49, true⟩, ⟨b1, #[(.int .u64 qx.l0), (.int .u64 qx.l1), (.int .u64 qx.l2), (.int .u64 qx.l3), (.int .u64 qx.l4), (.int .u64 qy.l0), (.int .u64 qy.l1), (.int .u64 qy.l2), (.int .u64 qy.l3), (.int .u64 qy.l4), (.int .u64 qz.l0), (.int .u64 qz.l1), (.int .u64 qz.l2), (.int .u64 qz.l3), (.int .u64 qz.l4), (.int .u64 qt.l0), (.int .u64 qt.l1), (.int .u64 qt.l2), (.int .u64 qt.l3), (.int .u64 qt.l4)], 49, true⟩, ⟨b0, #[(.int .u64 px.l0), (.int .u64 px.l1), (.int .u64 px.l2), (.int .u64 px.l3), (.int .u64 px.l4), (.int .u64 py.l0), (.int .u64 py.l1), (.int .u64 py.l2), (.int .u64 py.l3), (.int .u64 py.l4), (.int .u64 pz.l0), (.int .u64 pz.l1), (.int .u64 pz.l2), (.int .u64 pz.l3), (.int .u64 pz.l4), (.int .u64 pt.l0), (.int .u64 pt.l1), (.int .u64 pt.l2), (.int .u64 pt.l3), (.int .u64 pt.l4)], 49, true⟩, ⟨bc, #[(.int .u64 d.l0), (.int .u64 d.l1), (.int .u64 d.l2), (.int .u64 d.l3), (.int .u64 d.l4), (.int .u64 e.l0), (.int .u64 e.l1), (.int .u64 e.l2), (.int .u64 e.l3), (.int .u64 e.l4), (.int .u64 x0.l0), (.int .u64 x0.l1), (.int .u64 x0.l2), (.int .u64 x0.l3), (.int .u64 x0.l4), (.int .u64 y0.l0), (.int .u64 y0.l1), (.int .u64 y0.l2), (.int .u64 y0.l3), (.int .u64 y0.l4), (.int .u64 z0.l0), (.int .u64 z0.l1), (.int .u64 z0.l2), (.int .u64 z0.l3), (.int .u64 z0.l4), (.int .u64 t0.l0), (.int .u64 t0.l1), (.int .u64 t0.l2), (.int .u64 t0.l3), (.int .u64 t0.l4)], 55, false⟩] := hM
  show wpList _ _ _ (_ :: _) (putAll _ ((7, _) :: _)) _
  refine T_store 0 hn hM rfl rfl rfl rfl rfl rfl rfl (c' := #[(.int .u64 c3.l0), (.int .u64 c3.l1), (.int .u64 c3.l2), (.int .u64 c3.l3), (.int .u64 c3.l4)]) (sets_row sz30 rfl rfl rfl) (fun w hM => ?_)
  replace hM : Mem _ _ w [⟨(β1 11), #[(.int .u64 c3.l0), (.int .u64 c3.l1), (.int .u64 c3.l2), (.int .u64 c3.l3), (.int .u64 c3.l4)], 30, true⟩, ⟨b2, #[(.int .u64 0), (.int .u64 0), (.int .u64 0), (.int .u64 0), (.int .u64 0), (.int .u64 0), (.int .u64 0), (.int .u64 0), (.int .u64 0), (.int .u64 0), (.int .u64 0), (.int .u64 0), (.int .u64 0), (.int .u64 0), (.int .u64 0), (.int .u64 0), (.int .u64 0), (.int .u64 0), (.int .u64 0), (.int .u64 0)], 49, true⟩, ⟨b1, #[(.int .u64 qx.l0), (.int .u64 qx.l1), (.int .u64 qx.l2), (.int .u64 qx.l3), (.int .u64 qx.l4), (.int .u64 qy.l0), (.int .u64 qy.l1), (.int .u64 qy.l2), (.int .u64 qy.l3), (.int .u64 qy.l4), (.int .u64 qz.l0), (.int .u64 qz.l1), (.int .u64 qz.l2), (.int .u64 qz.l3), (.int .u64 qz.l4), (.int .u64 qt.l0), (.int .u64 qt.l1), (.int .u64 qt.l2), (.int .u64 qt.l3), (.int .u64 qt.l4)], 49, true⟩, ⟨b0, #[(.int .u64 px.l0), (.int .u64 px.l1), (.int .u64 px.l2), (.int .u64 px.l3), (.int .u64 px.l4), (.int .u64 py.l0), (.int .u64 py.l1), (.int .u64 py.l2), (.int .u64 py.l3), (.int .u64 py.l4), (.int .u64 pz.l0), (.int .u64 pz.l1), (.int .u64 pz.l2), (.int .u64 pz.l3), (.int .u64 pz.l4), (.int .u64 pt.l0), (.int .u64 pt.l1), (.int .u64 pt.l2), (.int .u64 pt.l3), (.int .u64 pt.l4)], 49, true⟩, ⟨bc, #[(.int .u64 d.l0), (.int .u64 d.l1), (.int .u64 d.l2), (.int .u64 d.l3), (.int .u64 d.l4), (.int .u64 e.l0), (.int .u64 e.l1), (.int .u64 e.l2), (.int .u64 e.l3), (.int .u64 e.l4), (.int .u64 x0.l0), (.int .u64 x0.l1), (.int .u64 x0.l2), (.int .u64 x0.l3), (.int .u64 x0.l4), (.int .u64 y0.l0), (.int .u64 y0.l1), (.int .u64 y0.l2), (.int .u64 y0.l3), (.int .u64 y0.l4), (.int .u64 z0.l0), (.int .u64 z0.l1), (.int .u64 z0.l2), (.int .u64 z0.l3), (.int .u64 z0.l4), (.int .u64 t0.l0), (.int .u64 t0.l1), (.int .u64 t0.l2), (.int .u64 t0.l3), (.int .u64 t0.l4)], 55, false⟩] := hM
  refine T_nil ?_
  refine wp_seq ?_
  refine R_any [.val, .val, .val, .val, .val, .val, .val, .val, .val, .val, .val, .alloc] 12 [⟨11, #[(.int .u64 0), (.int .u64 0), (.int .u64 0), (.int .u64 0), (.int .u64 0)], #[(.int .u64 0), (.int .u64 0), (.int .u64 0), (.int .u64 0), (.int .u64 0)], 30⟩] [(11, 8)] hn hM rfl (by kernel_rfl) (by kernel_rfl) rfl rfl rfl ?_
  refine E_val 26 rfl rfl rfl rfl (v := (.pointer (some ⟨b0, 5, none⟩))) (g_fieldAddr rfl rfl Tryd.underlying49 rfl Tryd.sizeOf30 5 rfl) ?_
  refine E_val 27 rfl rfl rfl rfl (v := (.agg #[(.int .u64 py.l0), (.int .u64 py.l1), (.int .u64 py.l2), (.int .u64 py.l3), (.int .u64 py.l4)])) (g_loadRow 3 [(.int .u64 py.l0), (.int .u64 py.l1), (.int .u64 py.l2), (.int .u64 py.l3), (.int .u64 py.l4)] rfl rfl rfl Tryd.underlying30 rfl sz30 rfl) ?_
  refine E_val 28 rfl rfl rfl rfl (v := (.pointer (some ⟨b0, 0, none⟩))) (g_fieldAddr rfl rfl Tryd.underlying49 rfl Tryd.sizeOf30 0 rfl) ?_
  refine E_val 29 rfl rfl rfl rfl (v := (.agg #[(.int .u64 px.l0), (.int .u64 px.l1), (.int .u64 px.l2), (.int .u64 px.l3), (.int .u64 px.l4)])) (g_loadRow 3 [(.int .u64 px.l0), (.int .u64 px.l1), (.int .u64 px.l2), (.int .u64 px.l3), (.int .u64 px.l4)] rfl rfl rfl Tryd.underlying30 rfl sz30 rfl) ?_
  refine E_call 30 rfl rfl rfl rfl (v := c4.v) (g_call pc4 rfl rfl rfl Tryd.func9 nm9 bd9) ?_
  refine E_val 31 rfl rfl rfl rfl (v := (.pointer (some ⟨b1, 5, none⟩))) (g_fieldAddr rfl rfl Tryd.underlying49 rfl Tryd.sizeOf30 5 rfl) ?_
  refine E_val 32 rfl rfl rfl rfl (v := (.agg #[(.int .u64 qy.l0), (.int .u64 qy.l1), (.int .u64 qy.l2), (.int .u64 qy.l3), (.int .u64 qy.l4)])) (g_loadRow 2 [(.int .u64 qy.l0), (.int .u64 qy.l1), (.int .u64 qy.l2), (.int .u64 qy.l3), (.int .u64 qy.l4)] rfl rfl rfl Tryd.underlying30 rfl sz30 rfl) ?_
  refine E_val 33 rfl rfl rfl rfl (v := (.pointer (some ⟨b1, 0, none⟩))) (g_fieldAddr rfl rfl Tryd.underlying49 rfl Tryd.sizeOf30 0 rfl) ?_
  refine E_val 34 rfl rfl rfl rfl (v := (.agg #[(.int .u64 qx.l0), (.int .u64 qx.l1), (.int .u64 qx.l2), (.int .u64 qx.l3), (.int .u64 qx.l4)])) (g_loadRow 2 [(.int .u64 qx.l0), (.int .u64 qx.l1), (.int .u64 qx.l2), (.int .u64 qx.l3), (.int .u64 qx.l4)] rfl rfl rfl Tryd.underlying30 rfl sz30 rfl) ?_
  refine E_call 35 rfl rfl rfl rfl (v := c5.v) (g_call pc5 rfl rfl rfl Tryd.func9 nm9 bd9) ?_
  refine E_call 36 rfl rfl rfl rfl (v := c6.v) (g_call pc6 rfl rfl rfl Tryd.func10 nm10 bd10) ?_
  refine E_skip rfl ?_
  refine E_nil ?_
  refine ⟨?_, fun β2 w hM => ?_⟩
  · skip
    refine M_val rfl ?_
    refine M_val rfl ?_
    refine M_val rfl ?_
    refine M_val rfl ?_
    refine M_val rfl ?_
    refine M_val rfl ?_
    refine M_val rfl ?_
    refine M_val rfl ?_
    refine M_val rfl ?_
    refine M_val rfl ?_
    refine M_val rfl ?_
    refine M_alloc rfl rfl (runs_alloc rfl Tryd.zeroValue30 rfl) ?_
    exact M_nil
  replace hM : Mem _ _ w [⟨(β2 11), #[(.int .u64 0), (.int .u64 0), (.int .u64 0), (.int .u64 0), (.int .u64 0)], 30, true⟩, ⟨(β1 11), #[(.int .u64 c3.l0), (.int .u64 c3.l1), (.int .u64 c3.l2), (.int .u64 c3.l3), (.int .u64 c3.l4)], 30, true⟩, ⟨b2, #[(.int .u64 0), (.int .u64 0), (.int .u64 0), (.int .u64 0), (.int .u64 0), (.int .u64 0), (.int .u64 0), (.int .u64 0), (.int .u64 0), (.int .u64 0), (.int .u64 0), (.int .u64 0), (.int .u64 0), (.int .u64 0), (.int .u64 0), (.int .u64 0), (.int .u64 0), (.int .u64 0), (.int .u64 0), (.int .u64 0)], 49, true⟩, ⟨b1, #[(.int .u64 qx.l0), (.int .u64 qx.l1), (.int .u64 qx.l2), (.int .u64 qx.l3), (.int .u64 qx.l4), (.int .u64 qy.l0), (.int .u64 qy.l1), (.int .u64 qy.l2), (.int .u64 qy.l3), (.int .u64 qy.l4), (.int .u64 qz.l0), (.int .u64 qz.l1), (.int .u64 qz.l2), (.int .u64 qz.l3), (.int .u64 qz.l4), (.int .u64 qt.l0), (.int .u64 qt.l1), (.int .u64 qt.l2), (.int .u64 qt.l3), (.int .u64 qt.l4)], 49, true⟩, ⟨b0, #[(.int .u64 px.l0), (.int .u64 px.l1), (.int .u64 px.l2), (.int .u64 px.l3), (.int .u64 px.l4), (.int .u64 py.l0), (.int .u64 py.l1), (.int .u64 py.l2), (.int .u64 py.l3), (.int .u64 py.l4), (.int .u64 pz.l0), (.int .u64 pz.l1), (.int .u64 pz.l2), (.int .u64 pz.l3), (.int .u64 pz.l4), (.int .u64 pt.l0), (.int .u64 pt.l1), (.int .u64 pt.l2), (.int .u64 pt.l3), (.int .u64 pt.l4)], 49, true⟩, ⟨bc, #[(.int .u64 d.l0), (.int .u64 d.l1), (.int .u64 d.l2), (.int .u64 d.l3), (.int .u64 d.l4), (.int .u64 e.l0), (.int .u64 e.l1), (.int .u64 e.l2), (.int .u64 e.l3), (.int .u64 e.l4), (.int .u64 x0.l0), (.int .u64 x0.l1), (.int .u64 x0.l2), (.int .u64 x0.l3), (.int .u64 x0.l4), (.int .u64 y0.l0), (.int .u64 y0.l1), (.int .u64 y0.l2), (.int .u64 y0.l3), (.int .u64 y0.l4), (.int .u64 z0.l0), (.int .u64 z0.l1), (.int .u64 z0.l2), (.int .u64 z0.l3), (.int .u64 z0.l4), (.int .u64 t0.l0), (.int .u64 t0.l1), (.int .u64 t0.l2), (.int .u64 t0.l3), (.int .u64 t0.l4)], 55, false⟩] := hM
  show wpList _ _ _ (_ :: _) (putAll _ ((8, _) :: _)) _
  refine T_store 0 hn hM rfl rfl rfl rfl rfl rfl rfl (c' := #[(.int .u64 c6.l0), (.int .u64 c6.l1), (.int .u64 c6.l2), (.int .u64 c6.l3), (.int .u64 c6.l4)]) (sets_row sz30 rfl rfl rfl) (fun w hM => ?_)
  replace hM : Mem _ _ w [⟨(β2 11), #[(.int .u64 c6.l0), (.int .u64 c6.l1), (.int .u64 c6.l2), (.int .u64 c6.l3), (.int .u64 c6.l4)], 30, true⟩, ⟨(β1 11), #[(.int .u64 c3.l0), (.int .u64 c3.l1), (.int .u64 c3.l2), (.int .u64 c3.l3), (.int .u64 c3.l4)], 30, true⟩, ⟨b2, #[(.int .u64 0), (.int .u64 0), (.int .u64 0), (.int .u64 0), (.int .u64 0), (.int .u64 0), (.int .u64 0), (.int .u64 0), (.int .u64 0), (.int .u64 0), (.int .u64 0), (.int .u64 0), (.int .u64 0), (.int .u64 0), (.int .u64 0), (.int .u64 0), (.int .u64 0), (.int .u64 0), (.int .u64 0), (.int .u64 0)], 49, true⟩, ⟨b1, #[(.int .u64 qx.l0), (.int .u64 qx.l1), (.int .u64 qx.l2), (.int .u64 qx.l3), (.int .u64 qx.l4), (.int .u64 qy.l0), (.int .u64 qy.l1), (.int .u64 qy.l2), (.int .u64 qy.l3), (.int .u64 qy.l4), (.int .u64 qz.l0), (.int .u64 qz.l1), (.int .u64 qz.l2), (.int .u64 qz.l3), (.int .u64 qz.l4), (.int .u64 qt.l0), (.int .u64 qt.l1), (.int .u64 qt.l2), (.int .u64 qt.l3), (.int .u64 qt.l4)], 49, true⟩, ⟨b0, #[(.int .u64 px.l0), (.int .u64 px.l1), (.int .u64 px.l2), (.int .u64 px.l3), (.int .u64 px.l4), (.int .u64 py.l0), (.int .u64 py.l1), (.int .u64 py.l2), (.int .u64 py.l3), (.int .u64 py.l4), (.int .u64 pz.l0), (.int .u64 pz.l1), (.int .u64 pz.l2), (.int .u64 pz.l3), (.int .u64 pz.l4), (.int .u64 pt.l0), (.int .u64 pt.l1), (.int .u64 pt.l2), (.int .u64 pt.l3), (.int .u64 pt.l4)], 49, true⟩, ⟨bc, #[(.int .u64 d.l0), (.int .u64 d.l1), (.int .u64 d.l2), (.int .u64 d.l3), (.int .u64 d.l4), (.int .u64 e.l0), (.int .u64 e.l1), (.int .u64 e.l2), (.int .u64 e.l3), (.int .u64 e.l4), (.int .u64 x0.l0), (.int .u64 x0.l1), (.int .u64 x0.l2), (.int .u64 x0.l3), (.int .u64 x0.l4), (.int .u64 y0.l0), (.int .u64 y0.l1), (.int .u64 y0.l2), (.int .u64 y0.l3), (.int .u64 y0.l4), (.int .u64 z0.l0), (.int .u64 z0.l1), (.int .u64 z0.l2), (.int .u64 z0.l3), (.int .u64 z0.l4), (.int .u64 t0.l0), (.int .u64 t0.l1), (.int .u64 t0.l2), (.int .u64 t0.l3), (.int .u64 t0.l4)], 55, false⟩] := hM
  refine T_nil ?_
  refine wp_seq ?_
  refine R_any [.val, .val, .val, .val, .val, .val, .val, .val, .val, .val, .alloc] 11 [⟨10, #[(.int .u64 0), (.int .u64 0), (.int .u64 0), (.int .u64 0), (.int .u64 0)], #[(.int .u64 0), (.int .u64 0), (.int .u64 0), (.int .u64 0), (.int .u64 0)], 30⟩] [(10, 9)] hn hM rfl (by kernel_rfl) (by kernel_rfl) rfl rfl rfl ?_
  refine E_val 37 rfl rfl rfl rfl (v := (.pointer (some ⟨b0, 15, none⟩))) (g_fieldAddr rfl rfl Tryd.underlying49 rfl Tryd.sizeOf30 15 rfl) ?_
  refine E_val 38 rfl rfl rfl rfl (v := (.agg #[(.int .u64 pt.l0), (.int .u64 pt.l1), (.int .u64 pt.l2), (.int .u64 pt.l3), (.int .u64 pt.l4)])) (g_loadRow 4 [(.int .u64 pt.l0), (.int .u64 pt.l1), (.int .u64 pt.l2), (.int .u64 pt.l3), (.int .u64 pt.l4)] rfl rfl rfl Tryd.underlying30 rfl sz30 rfl) ?_
  refine E_val 39 rfl rfl rfl rfl (v := (.pointer (some ⟨bc, 0, none⟩))) (g_move rfl rfl) ?_
  refine E_val 40 rfl rfl rfl rfl (v := (.pointer (some ⟨bc, 0, none⟩))) (g_nilCheck rfl rfl) ?_
  refine E_val 41 rfl rfl rfl rfl (v := (.pointer (some ⟨bc, 5, none⟩))) (g_fieldAddr rfl rfl Tryd.underlying55 rfl Tryd.sizeOf30 5 rfl) ?_
  refine E_val 42 rfl rfl rfl rfl (v := (.agg #[(.int .u64 e.l0), (.int .u64 e.l1), (.int .u64 e.l2), (.int .u64 e.l3), (.int .u64 e.l4)])) (g_loadRow 5 [(.int .u64 e.l0), (.int .u64 e.l1), (.int .u64 e.l2), (.int .u64 e.l3), (.int .u64 e.l4)] rfl rfl rfl Tryd.underlying30 rfl sz30 rfl) ?_
  refine E_call 43 rfl rfl rfl rfl (v := c7.v) (g_call pc7 rfl rfl rfl Tryd.func10 nm10 bd10) ?_
  refine E_val 44 rfl rfl rfl rfl (v := (.pointer (some ⟨b1, 15, none⟩))) (g_fieldAddr rfl rfl Tryd.underlying49 rfl Tryd.sizeOf30 15 rfl) ?_
  refine E_val 45 rfl rfl rfl rfl (v := (.agg #[(.int .u64 qt.l0), (.int .u64 qt.l1), (.int .u64 qt.l2), (.int .u64 qt.l3), (.int .u64 qt.l4)])) (g_loadRow 3 [(.int .u64 qt.l0), (.int .u64 qt.l1), (.int .u64 qt.l2), (.int .u64 qt.l3), (.int .u64 qt.l4)] rfl rfl rfl Tryd.underlying30 rfl sz30 rfl) ?_
  refine E_call 46 rfl rfl rfl rfl (v := c8.v) (g_call pc8 rfl rfl rfl Tryd.func10 nm10 bd10) ?_
  refine E_skip rfl ?_
  refine E_nil ?_
  refine ⟨?_, fun β3 w hM => ?_⟩
  · skip
    refine M_val rfl ?_
    refine M_val rfl ?_
    refine M_val rfl ?_
    refine M_val rfl ?_
    refine M_val rfl ?_
    refine M_val rfl ?_
    refine M_val rfl ?_
    refine M_val rfl ?_
    refine M_val rfl ?_
    refine M_val rfl ?_
    refine M_alloc rfl rfl (runs_alloc rfl Tryd.zeroValue30 rfl) ?_
    exact M_nil
  replace hM : Mem _ _ w [⟨(β3 10), #[(.int .u64 0), (.int .u64 0), (.int .u64 0), (.int .u64 0), (.int .u64 0)], 30, true⟩, ⟨(β2 11), #[(.int .u64 c6.l0), (.int .u64 c6.l1), (.int .u64 c6.l2), (.int .u64 c6.l3), (.int .u64 c6.l4)], 30, true⟩, ⟨(β1 11), #[(.int .u64 c3.l0), (.int .u64 c3.l1), (.int .u64 c3.l2), (.int .u64 c3.l3), (.int .u64 c3.l4)], 30, true⟩, ⟨b2, #[(.int .u64 0), (.int .u64 0), (.int .u64 0), (.int .u64 0), (.int .u64 0), (.int .u64 0), (.int .u64 0), (.int .u64 0), (.int .u64 0), (.int .u64 0), (.int .u64 0), (.int .u64 0), (.int .u64 0), (.int .u64 0), (.int .u64 0), (.int .u64 0), (.int .u64 0), (.int .u64 0), (.int .u64 0), (.int .u64 0)], 49, true⟩, ⟨b1, #[(.int .u64 qx.l0), (.int .u64 qx.l1), (.int .u64 qx.l2), (.int .u64 qx.l3), (.int .u64 qx.l4), (.int .u64 qy.l0), (.int .u64 qy.l1), (.int .u64 qy.l2), (.int .u64 qy.l3), (.int .u64 qy.l4), (.int .u64 qz.l0), (.int .u64 qz.l1), (.int .u64 qz.l2), (.int .u64 qz.l3), (.int .u64 qz.l4), (.int .u64 qt.l0), (.int .u64 qt.l1), (.int .u64 qt.l2), (.int .u64 qt.l3), (.int .u64 qt.l4)], 49, true⟩, ⟨b0, #[(.int .u64 px.l0), (.int .u64 px.l1), (.int .u64 px.l2), (.int .u64 px.l3), (.int .u64 px.l4), (.int .u64 py.l0), (.int .u64 py.l1), (.int .u64 py.l2), (.int .u64 py.l3), (.int .u64 py.l4), (.int .u64 pz.l0), (.int .u64 pz.l1), (.int .u64 pz.l2), (.int .u64 pz.l3), (.int .u64 pz.l4), (.int .u64 pt.l0), (.int .u64 pt.l1), (.int .u64 pt.l2), (.int .u64 pt.l3), (.int .u64 pt.l4)], 49, true⟩, ⟨bc, #[(.int .u64 d.l0), (.int .u64 d.l1), (.int .u64 d.l2), (.int .u64 d.l3), (.int .u64 d.l4), (.int .u64 e.l0), (.int .u64 e.l1), (.int .u64 e.l2), (.int .u64 e.l3), (.int .u64 e.l4), (.int .u64 x0.l0), (.int .u64 x0.l1), (.int .u64 x0.l2), (.int .u64 x0.l3), (.int .u64 x0.l4), (.int .u64 y0.l0), (.int .u64 y0.l1), (.int .u64 y0.l2), (.int .u64 y0.l3), (.int .u64 y0.l4), (.int .u64 z0.l0), (.int .u64 z0.l1), (.int .u64 z0.l2), (.int .u64 z0.l3), (.int .u64 z0.l4), (.int .u64 t0.l0), (.int .u64 t0.l1), (.int .u64 t0.l2), (.int .u64 t0.l3), (.int .u64 t0.l4)], 55, false⟩] := hM
  show wpList _ _ _ (_ :: _) (putAll _ ((9, _) :: _)) _
  refine T_store 0 hn hM rfl rfl rfl rfl rfl rfl rfl (c' := #[(.int .u64 c8.l0), (.int .u64 c8.l1), (.int .u64 c8.l2), (.int .u64 c8.l3), (.int .u64 c8.l4)]) (sets_row sz30 rfl rfl rfl) (fun w hM => ?_)
  replace hM : Mem _ _ w [⟨(β3 10), #[(.int .u64 c8.l0), (.int .u64 c8.l1), (.int .u64 c8.l2), (.int .u64 c8.l3), (.int .u64 c8.l4)], 30, true⟩, ⟨(β2 11), #[(.int .u64 c6.l0), (.int .u64 c6.l1), (.int .u64 c6.l2), (.int .u64 c6.l3), (.int .u64 c6.l4)], 30, true⟩, ⟨(β1 11), #[(.int .u64 c3.l0), (.int .u64 c3.l1), (.int .u64 c3.l2), (.int .u64 c3.l3), (.int .u64 c3.l4)], 30, true⟩, ⟨b2, #[(.int .u64 0), (.int .u64 0), (.int .u64 0), (.int .u64 0), (.int .u64 0), (.int .u64 0), (.int .u64 0), (.int .u64 0), (.int .u64 0), (.int .u64 0), (.int .u64 0), (.int .u64 0), (.int .u64 0), (.int .u64 0), (.int .u64 0), (.int .u64 0), (.int .u64 0), (.int .u64 0), (.int .u64 0), (.int .u64 0)], 49, true⟩, ⟨b1, #[(.int .u64 qx.l0), (.int .u64 qx.l1), (.int .u64 qx.l2), (.int .u64 qx.l3), (.int .u64 qx.l4), (.int .u64 qy.l0), (.int .u64 qy.l1), (.int .u64 qy.l2), (.int .u64 qy.l3), (.int .u64 qy.l4), (.int .u64 qz.l0), (.int .u64 qz.l1), (.int .u64 qz.l2), (.int .u64 qz.l3), (.int .u64 qz.l4), (.int .u64 qt.l0), (.int .u64 qt.l1), (.int .u64 qt.l2), (.int .u64 qt.l3), (.int .u64 qt.l4)], 49, true⟩, ⟨b0, #[(.int .u64 px.l0), (.int .u64 px.l1), (.int .u64 px.l2), (.int .u64 px.l3), (.int .u64 px.l4), (.int .u64 py.l0), (.int .u64 py.l1), (.int .u64 py.l2), (.int .u64 py.l3), (.int .u64 py.l4), (.int .u64 pz.l0), (.int .u64 pz.l1), (.int .u64 pz.l2), (.int .u64 pz.l3), (.int .u64 pz.l4), (.int .u64 pt.l0), (.int .u64 pt.l1), (.int .u64 pt.l2), (.int .u64 pt.l3), (.int .u64 pt.l4)], 49, true⟩, ⟨bc, #[(.int .u64 d.l0), (.int .u64 d.l1), (.int .u64 d.l2), (.int .u64 d.l3), (.int .u64 d.l4), (.int .u64 e.l0), (.int .u64 e.l1), (.int .u64 e.l2), (.int .u64 e.l3), (.int .u64 e.l4), (.int .u64 x0.l0), (.int .u64 x0.l1), (.int .u64 x0.l2), (.int .u64 x0.l3), (.int .u64 x0.l4), (.int .u64 y0.l0), (.int .u64 y0.l1), (.int .u64 y0.l2), (.int .u64 y0.l3), (.int .u64 y0.l4), (.int .u64 z0.l0), (.int .u64 z0.l1), (.int .u64 z0.l2), (.int .u64 z0.l3), (.int .u64 z0.l4), (.int .u64 t0.l0), (.int .u64 t0.l1), (.int .u64 t0.l2), (.int .u64 t0.l3), (.int .u64 t0.l4)], 55, false⟩] := hM
  refine T_nil ?_
  refine wp_seq ?_
  refine wp_region_lit ?_
  refine T_val 47 hn hM rfl rfl rfl (v := (.pointer (some ⟨b0, 10, none⟩))) (g_fieldAddr rfl rfl Tryd.underlying49 rfl Tryd.sizeOf30 10 rfl) ?_
  refine T_val 48 hn hM rfl rfl rfl (v := (.agg #[(.int .u64 pz.l0), (.int .u64 pz.l1), (.int .u64 pz.l2), (.int .u64 pz.l3), (.int .u64 pz.l4)])) (g_loadRow 5 [(.int .u64 pz.l0), (.int .u64 pz.l1), (.int .u64 pz.l2), (.int .u64 pz.l3), (.int .u64 pz.l4)] rfl rfl rfl Tryd.underlying30 rfl sz30 rfl) ?_
  refine T_val 49 hn hM rfl rfl rfl (v := (.pointer (some ⟨b1, 10, none⟩))) (g_fieldAddr rfl rfl Tryd.underlying49 rfl Tryd.sizeOf30 10 rfl) ?_
  refine T_val 50 hn hM rfl rfl rfl (v := (.agg #[(.int .u64 qz.l0), (.int .u64 qz.l1), (.int .u64 qz.l2), (.int .u64 qz.l3), (.int .u64 qz.l4)])) (g_loadRow 4 [(.int .u64 qz.l0), (.int .u64 qz.l1), (.int .u64 qz.l2), (.int .u64 qz.l3), (.int .u64 qz.l4)] rfl rfl rfl Tryd.underlying30 rfl sz30 rfl) ?_
  refine T_call 51 hn hM rfl rfl rfl (v := c9.v) (g_call pc9 rfl rfl rfl Tryd.func10 nm10 bd10) (fun w hM => ?_)
  refine T_alloc 10 hn hM rfl rfl rfl rfl Tryd.zeroValue30 #[(.int .u64 0), (.int .u64 0), (.int .u64 0), (.int .u64 0), (.int .u64 0)] rfl (fun b3 w hM => ?_)
  refine T_store 0 hn hM rfl rfl rfl rfl rfl rfl rfl (c' := #[(.int .u64 c9.l0), (.int .u64 c9.l1), (.int .u64 c9.l2), (.int .u64 c9.l3), (.int .u64 c9.l4)]) (sets_row sz30 rfl rfl rfl) (fun w hM => ?_)
  replace hM : Mem _ _ w [⟨b3, #[(.int .u64 c9.l0), (.int .u64 c9.l1), (.int .u64 c9.l2), (.int .u64 c9.l3), (.int .u64 c9.l4)], 30, true⟩, ⟨(β3 10), #[(.int .u64 c8.l0), (.int .u64 c8.l1), (.int .u64 c8.l2), (.int .u64 c8.l3), (.int .u64 c8.l4)], 30, true⟩, ⟨(β2 11), #[(.int .u64 c6.l0), (.int .u64 c6.l1), (.int .u64 c6.l2), (.int .u64 c6.l3), (.int .u64 c6.l4)], 30, true⟩, ⟨(β1 11), #[(.int .u64 c3.l0), (.int .u64 c3.l1), (.int .u64 c3.l2), (.int .u64 c3.l3), (.int .u64 c3.l4)], 30, true⟩, ⟨b2, #[(.int .u64 0), (.int .u64 0), (.int .u64 0), (.int .u64 0), (.int .u64 0), (.int .u64 0), (.int .u64 0), (.int .u64 0), (.int .u64 0), (.int .u64 0), (.int .u64 0), (.int .u64 0), (.int .u64 0), (.int .u64 0), (.int .u64 0), (.int .u64 0), (.int .u64 0), (.int .u64 0), (.int .u64 0), (.int .u64 0)], 49, true⟩, ⟨b1, #[(.int .u64 qx.l0), (.int .u64 qx.l1), (.int .u64 qx.l2), (.int .u64 qx.l3), (.int .u64 qx.l4), (.int .u64 qy.l0), (.int .u64 qy.l1), (.int .u64 qy.l2), (.int .u64 qy.l3), (.int .u64 qy.l4), (.int .u64 qz.l0), (.int .u64 qz.l1), (.int .u64 qz.l2), (.int .u64 qz.l3), (.int .u64 qz.l4), (.int .u64 qt.l0), (.int .u64 qt.l1), (.int .u64 qt.l2), (.int .u64 qt.l3), (.int .u64 qt.l4)], 49, true⟩, ⟨b0, #[(.int .u64 px.l0), (.int .u64 px.l1), (.int .u64 px.l2), (.int .u64 px.l3), (.int .u64 px.l4), (.int .u64 py.l0), (.int .u64 py.l1), (.int .u64 py.l2), (.int .u64 py.l3), (.int .u64 py.l4), (.int .u64 pz.l0), (.int .u64 pz.l1), (.int .u64 pz.l2), (.int .u64 pz.l3), (.int .u64 pz.l4), (.int .u64 pt.l0), (.int .u64 pt.l1), (.int .u64 pt.l2), (.int .u64 pt.l3), (.int .u64 pt.l4)], 49, true⟩, ⟨bc, #[(.int .u64 d.l0), (.int .u64 d.l1), (.int .u64 d.l2), (.int .u64 d.l3), (.int .u64 d.l4), (.int .u64 e.l0), (.int .u64 e.l1), (.int .u64 e.l2), (.int .u64 e.l3), (.int .u64 e.l4), (.int .u64 x0.l0), (.int .u64 x0.l1), (.int .u64 x0.l2), (.int .u64 x0.l3), (.int .u64 x0.l4), (.int .u64 y0.l0), (.int .u64 y0.l1), (.int .u64 y0.l2), (.int .u64 y0.l3), (.int .u64 y0.l4), (.int .u64 z0.l0), (.int .u64 z0.l1), (.int .u64 z0.l2), (.int .u64 z0.l3), (.int .u64 z0.l4), (.int .u64 t0.l0), (.int .u64 t0.l1), (.int .u64 t0.l2), (.int .u64 t0.l3), (.int .u64 t0.l4)], 55, false⟩] := hM
  refine T_nil ?_
  refine wp_seq ?_
  refine wp_region_lit ?_
  refine T_val 52 hn hM rfl rfl rfl (v := (.agg #[(.int .u64 c9.l0), (.int .u64 c9.l1), (.int .u64 c9.l2), (.int .u64 c9.l3), (.int .u64 c9.l4)])) (g_loadRow 0 [(.int .u64 c9.l0), (.int .u64 c9.l1), (.int .u64 c9.l2), (.int .u64 c9.l3), (.int .u64 c9.l4)] rfl rfl rfl Tryd.underlying30 rfl sz30 rfl) ?_
  refine T_val 53 hn hM rfl rfl rfl (v := (.agg #[(.int .u64 c9.l0), (.int .u64 c9.l1), (.int .u64 c9.l2), (.int .u64 c9.l3), (.int .u64 c9.l4)])) (g_loadRow 0 [(.int .u64 c9.l0), (.int .u64 c9.l1), (.int .u64 c9.l2), (.int .u64 c9.l3), (.int .u64 c9.l4)] rfl rfl rfl Tryd.underlying30 rfl sz30 rfl) ?_
  refine T_call 54 hn hM rfl rfl rfl (v := c10.v) (g_call pc10 rfl rfl rfl Tryd.func9 nm9 bd9) (fun w hM => ?_)
  refine T_store 0 hn hM rfl rfl rfl rfl rfl rfl rfl (c' := #[(.int .u64 c10.l0), (.int .u64 c10.l1), (.int .u64 c10.l2), (.int .u64 c10.l3), (.int .u64 c10.l4)]) (sets_row sz30 rfl rfl rfl) (fun w hM => ?_)
  replace hM : Mem _ _ w [⟨b3, #[(.int .u64 c10.l0), (.int .u64 c10.l1), (.int .u64 c10.l2), (.int .u64 c10.l3), (.int .u64 c10.l4)], 30, true⟩, ⟨(β3 10), #[(.int .u64 c8.l0), (.int .u64 c8.l1), (.int .u64 c8.l2), (.int .u64 c8.l3), (.int .u64 c8.l4)], 30, true⟩, ⟨(β2 11), #[(.int .u64 c6.l0), (.int .u64 c6.l1), (.int .u64 c6.l2), (.int .u64 c6.l3), (.int .u64 c6.l4)], 30, true⟩, ⟨(β1 11), #[(.int .u64 c3.l0), (.int .u64 c3.l1), (.int .u64 c3.l2), (.int .u64 c3.l3), (.int .u64 c3.l4)], 30, true⟩, ⟨b2, #[(.int .u64 0), (.int .u64 0), (.int .u64 0), (.int .u64 0), (.int .u64 0), (.int .u64 0), (.int .u64 0), (.int .u64 0), (.int .u64 0), (.int .u64 0), (.int .u64 0), (.int .u64 0), (.int .u64 0), (.int .u64 0), (.int .u64 0), (.int .u64 0), (.int .u64 0), (.int .u64 0), (.int .u64 0), (.int .u64 0)], 49, true⟩, ⟨b1, #[(.int .u64 qx.l0), (.int .u64 qx.l1), (.int .u64 qx.l2), (.int .u64 qx.l3), (.int .u64 qx.l4), (.int .u64 qy.l0), (.int .u64 qy.l1), (.int .u64 qy.l2), (.int .u64 qy.l3), (.int .u64 qy.l4), (.int .u64 qz.l0), (.int .u64 qz.l1), (.int .u64 qz.l2), (.int .u64 qz.l3), (.int .u64 qz.l4), (.int .u64 qt.l0), (.int .u64 qt.l1), (.int .u64 qt.l2), (.int .u64 qt.l3), (.int .u64 qt.l4)], 49, true⟩, ⟨b0, #[(.int .u64 px.l0), (.int .u64 px.l1), (.int .u64 px.l2), (.int .u64 px.l3), (.int .u64 px.l4), (.int .u64 py.l0), (.int .u64 py.l1), (.int .u64 py.l2), (.int .u64 py.l3), (.int .u64 py.l4), (.int .u64 pz.l0), (.int .u64 pz.l1), (.int .u64 pz.l2), (.int .u64 pz.l3), (.int .u64 pz.l4), (.int .u64 pt.l0), (.int .u64 pt.l1), (.int .u64 pt.l2), (.int .u64 pt.l3), (.int .u64 pt.l4)], 49, true⟩, ⟨bc, #[(.int .u64 d.l0), (.int .u64 d.l1), (.int .u64 d.l2), (.int .u64 d.l3), (.int .u64 d.l4), (.int .u64 e.l0), (.int .u64 e.l1), (.int .u64 e.l2), (.int .u64 e.l3), (.int .u64 e.l4), (.int .u64 x0.l0), (.int .u64 x0.l1), (.int .u64 x0.l2), (.int .u64 x0.l3), (.int .u64 x0.l4), (.int .u64 y0.l0), (.int .u64 y0.l1), (.int .u64 y0.l2), (.int .u64 y0.l3), (.int .u64 y0.l4), (.int .u64 z0.l0), (.int .u64 z0.l1), (.int .u64 z0.l2), (.int .u64 z0.l3), (.int .u64 z0.l4), (.int .u64 t0.l0), (.int .u64 t0.l1), (.int .u64 t0.l2), (.int .u64 t0.l3), (.int .u64 t0.l4)], 55, false⟩] := hM
  refine T_nil ?_
  refine wp_seq ?_
  refine R_any [.val, .val, .val, .val, .val, .val, .val, .val, .val, .val, .val, .val, .alloc, .alloc, .alloc, .alloc] 16 [⟨12, #[(.int .u64 0), (.int .u64 0), (.int .u64 0), (.int .u64 0), (.int .u64 0)], #[(.int .u64 0), (.int .u64 0), (.int .u64 0), (.int .u64 0), (.int .u64 0)], 30⟩, ⟨13, #[(.int .u64 0), (.int .u64 0), (.int .u64 0), (.int .u64 0), (.int .u64 0)], #[(.int .u64 0), (.int .u64 0), (.int .u64 0), (.int .u64 0), (.int .u64 0)], 30⟩, ⟨14, #[(.int .u64 0), (.int .u64 0), (.int .u64 0), (.int .u64 0), (.int .u64 0)], #[(.int .u64 0), (.int .u64 0), (.int .u64 0), (.int .u64 0), (.int .u64 0)], 30⟩, ⟨15, #[(.int .u64 0), (.int .u64 0), (.int .u64 0), (.int .u64 0), (.int .u64 0)], #[(.int .u64 0), (.int .u64 0), (.int .u64 0), (.int .u64 0), (.int .u64 0)], 30⟩] [(12, 11), (13, 12), (14, 13), (15, 14)] hn hM rfl (by kernel_rfl) (by kernel_rfl) rfl rfl rfl ?_
  refine E_val 55 rfl rfl rfl rfl (v := (.agg #[(.int .u64 c6.l0), (.int .u64 c6.l1), (.int .u64 c6.l2), (.int .u64 c6.l3), (.int .u64 c6.l4)])) (g_loadRow 2 [(.int .u64 c6.l0), (.int .u64 c6.l1), (.int .u64 c6.l2), (.int .u64 c6.l3), (.int .u64 c6.l4)] rfl rfl rfl Tryd.underlying30 rfl sz30 rfl) ?_
  refine E_val 56 rfl rfl rfl rfl (v := (.agg #[(.int .u64 c3.l0), (.int .u64 c3.l1), (.int .u64 c3.l2), (.int .u64 c3.l3), (.int .u64 c3.l4)])) (g_loadRow 3 [(.int .u64 c3.l0), (.int .u64 c3.l1), (.int .u64 c3.l2), (.int .u64 c3.l3), (.int .u64 c3.l4)] rfl rfl rfl Tryd.underlying30 rfl sz30 rfl) ?_
  refine E_call 57 rfl rfl rfl rfl (v := c11.v) (g_call pc11 rfl rfl rfl Tryd.func11 nm11 bd11) ?_
  refine E_val 58 rfl rfl rfl rfl (v := (.agg #[(.int .u64 c10.l0), (.int .u64 c10.l1), (.int .u64 c10.l2), (.int .u64 c10.l3), (.int .u64 c10.l4)])) (g_loadRow 0 [(.int .u64 c10.l0), (.int .u64 c10.l1), (.int .u64 c10.l2), (.int .u64 c10.l3), (.int .u64 c10.l4)] rfl rfl rfl Tryd.underlying30 rfl sz30 rfl) ?_
  refine E_val 59 rfl rfl rfl rfl (v := (.agg #[(.int .u64 c8.l0), (.int .u64 c8.l1), (.int .u64 c8.l2), (.int .u64 c8.l3), (.int .u64 c8.l4)])) (g_loadRow 1 [(.int .u64 c8.l0), (.int .u64 c8.l1), (.int .u64 c8.l2), (.int .u64 c8.l3), (.int .u64 c8.l4)] rfl rfl rfl Tryd.underlying30 rfl sz30 rfl) ?_
  refine E_call 60 rfl rfl rfl rfl (v := c12.v) (g_call pc12 rfl rfl rfl Tryd.func11 nm11 bd11) ?_
  refine E_val 61 rfl rfl rfl rfl (v := (.agg #[(.int .u64 c10.l0), (.int .u64 c10.l1), (.int .u64 c10.l2), (.int .u64 c10.l3), (.int .u64 c10.l4)])) (g_loadRow 0 [(.int .u64 c10.l0), (.int .u64 c10.l1), (.int .u64 c10.l2), (.int .u64 c10.l3), (.int .u64 c10.l4)] rfl rfl rfl Tryd.underlying30 rfl sz30 rfl) ?_
  refine E_val 62 rfl rfl rfl rfl (v := (.agg #[(.int .u64 c8.l0), (.int .u64 c8.l1), (.int .u64 c8.l2), (.int .u64 c8.l3), (.int .u64 c8.l4)])) (g_loadRow 1 [(.int .u64 c8.l0), (.int .u64 c8.l1), (.int .u64 c8.l2), (.int .u64 c8.l3), (.int .u64 c8.l4)] rfl rfl rfl Tryd.underlying30 rfl sz30 rfl) ?_
  refine E_call 63 rfl rfl rfl rfl (v := c13.v) (g_call pc13 rfl rfl rfl Tryd.func9 nm9 bd9) ?_
  refine E_val 64 rfl rfl rfl rfl (v := (.agg #[(.int .u64 c6.l0), (.int .u64 c6.l1), (.int .u64 c6.l2), (.int .u64 c6.l3), (.int .u64 c6.l4)])) (g_loadRow 2 [(.int .u64 c6.l0), (.int .u64 c6.l1), (.int .u64 c6.l2), (.int .u64 c6.l3), (.int .u64 c6.l4)] rfl rfl rfl Tryd.underlying30 rfl sz30 rfl) ?_
  refine E_val 65 rfl rfl rfl rfl (v := (.agg #[(.int .u64 c3.l0), (.int .u64 c3.l1), (.int .u64 c3.l2), (.int .u64 c3.l3), (.int .u64 c3.l4)])) (g_loadRow 3 [(.int .u64 c3.l0), (.int .u64 c3.l1), (.int .u64 c3.l2), (.int .u64 c3.l3), (.int .u64 c3.l4)] rfl rfl rfl Tryd.underlying30 rfl sz30 rfl) ?_
  refine E_call 66 rfl rfl rfl rfl (v := c14.v) (g_call pc14 rfl rfl rfl Tryd.func9 nm9 bd9) ?_
  refine E_skip rfl ?_
  refine E_skip rfl ?_
  refine E_skip rfl ?_
  refine E_skip rfl ?_
  refine E_nil ?_
  refine ⟨?_, fun β4 w hM => ?_⟩
  · skip
    refine M_val rfl ?_
    refine M_val rfl ?_
    refine M_val rfl ?_
    refine M_val rfl ?_
    refine M_val rfl ?_
    refine M_val rfl ?_
    refine M_val rfl ?_
    refine M_val rfl ?_
    refine M_val rfl ?_
    refine M_val rfl ?_
    refine M_val rfl ?_
    refine M_val rfl ?_
    refine M_alloc rfl rfl (runs_alloc rfl Tryd.zeroValue30 rfl) ?_
    refine M_alloc rfl rfl (runs_alloc rfl Tryd.zeroValue30 rfl) ?_
    refine M_alloc rfl rfl (runs_alloc rfl Tryd.zeroValue30 rfl) ?_
    refine M_alloc rfl rfl (runs_alloc rfl Tryd.zeroValue30 rfl) ?_
    exact M_nil
  replace hM : Mem _ _ w [⟨(β4 12), #[(.int .u64 0), (.int .u64 0), (.int .u64 0), (.int .u64 0), (.int .u64 0)], 30, true⟩, ⟨(β4 13), #[(.int .u64 0), (.int .u64 0), (.int .u64 0), (.int .u64 0), (.int .u64 0)], 30, true⟩, ⟨(β4 14), #[(.int .u64 0), (.int .u64 0), (.int .u64 0), (.int .u64 0), (.int .u64 0)], 30, true⟩, ⟨(β4 15), #[(.int .u64 0), (.int .u64 0), (.int .u64 0), (.int .u64 0), (.int .u64 0)], 30, true⟩, ⟨b3, #[(.int .u64 c10.l0), (.int .u64 c10.l1), (.int .u64 c10.l2), (.int .u64 c10.l3), (.int .u64 c10.l4)], 30, true⟩, ⟨(β3 10), #[(.int .u64 c8.l0), (.int .u64 c8.l1), (.int .u64 c8.l2), (.int .u64 c8.l3), (.int .u64 c8.l4)], 30, true⟩, ⟨(β2 11), #[(.int .u64 c6.l0), (.int .u64 c6.l1), (.int .u64 c6.l2), (.int .u64 c6.l3), (.int .u64 c6.l4)], 30, true⟩, ⟨(β1 11), #[(.int .u64 c3.l0), (.int .u64 c3.l1), (.int .u64 c3.l2), (.int .u64 c3.l3), (.int .u64 c3.l4)], 30, true⟩, ⟨b2, #[(.int .u64 0), (.int .u64 0), (.int .u64 0), (.int .u64 0), (.int .u64 0), (.int .u64 0), (.int .u64 0), (.int .u64 0), (.int .u64 0), (.int .u64 0), (.int .u64 0), (.int .u64 0), (.int .u64 0), (.int .u64 0), (.int .u64 0), (.int .u64 0), (.int .u64 0), (.int .u64 0), (.int .u64 0), (.int .u64 0)], 49, true⟩, ⟨b1, #[(.int .u64 qx.l0), (.int .u64 qx.l1), (.int .u64 qx.l2), (.int .u64 qx.l3), (.int .u64 qx.l4), (.int .u64 qy.l0), (.int .u64 qy.l1), (.int .u64 qy.l2), (.int .u64 qy.l3), (.int .u64 qy.l4), (.int .u64 qz.l0), (.int .u64 qz.l1), (.int .u64 qz.l2), (.int .u64 qz.l3), (.int .u64 qz.l4), (.int .u64 qt.l0), (.int .u64 qt.l1), (.int .u64 qt.l2), (.int .u64 qt.l3), (.int .u64 qt.l4)], 49, true⟩, ⟨b0, #[(.int .u64 px.l0), (.int .u64 px.l1), (.int .u64 px.l2), (.int .u64 px.l3), (.int .u64 px.l4), (.int .u64 py.l0), (.int .u64 py.l1), (.int .u64 py.l2), (.int .u64 py.l3), (.int .u64 py.l4), (.int .u64 pz.l0), (.int .u64 pz.l1), (.int .u64 pz.l2), (.int .u64 pz.l3), (.int .u64 pz.l4), (.int .u64 pt.l0), (.int .u64 pt.l1), (.int .u64 pt.l2), (.int .u64 pt.l3), (.int .u64 pt.l4)], 49, true⟩, ⟨bc, #[(.int .u64 d.l0), (.int .u64 d.l1), (.int .u64 d.l2), (.int .u64 d.l3), (.int .u64 d.l4), (.int .u64 e.l0), (.int .u64 e.l1), (.int .u64 e.l2), (.int .u64 e.l3), (.int .u64 e.l4), (.int .u64 x0.l0), (.int .u64 x0.l1), (.int .u64 x0.l2), (.int .u64 x0.l3), (.int .u64 x0.l4), (.int .u64 y0.l0), (.int .u64 y0.l1), (.int .u64 y0.l2), (.int .u64 y0.l3), (.int .u64 y0.l4), (.int .u64 z0.l0), (.int .u64 z0.l1), (.int .u64 z0.l2), (.int .u64 z0.l3), (.int .u64 z0.l4), (.int .u64 t0.l0), (.int .u64 t0.l1), (.int .u64 t0.l2), (.int .u64 t0.l3), (.int .u64 t0.l4)], 55, false⟩] := hM
  show wpList _ _ _ (_ :: _) (putAll _ ((14, _) :: (13, _) :: (12, _) :: (11, _) :: _)) _
  refine T_store 0 hn hM rfl rfl rfl rfl rfl rfl rfl (c' := #[(.int .u64 c11.l0), (.int .u64 c11.l1), (.int .u64 c11.l2), (.int .u64 c11.l3), (.int .u64 c11.l4)]) (sets_row sz30 rfl rfl rfl) (fun w hM => ?_)
  replace hM : Mem _ _ w [⟨(β4 12), #[(.int .u64 c11.l0), (.int .u64 c11.l1), (.int .u64 c11.l2), (.int .u64 c11.l3), (.int .u64 c11.l4)], 30, true⟩, ⟨(β4 13), #[(.int .u64 0), (.int .u64 0), (.int .u64 0), (.int .u64 0), (.int .u64 0)], 30, true⟩, ⟨(β4 14), #[(.int .u64 0), (.int .u64 0), (.int .u64 0), (.int .u64 0), (.int .u64 0)], 30, true⟩, ⟨(β4 15), #[(.int .u64 0), (.int .u64 0), (.int .u64 0), (.int .u64 0), (.int .u64 0)], 30, true⟩, ⟨b3, #[(.int .u64 c10.l0), (.int .u64 c10.l1), (.int .u64 c10.l2), (.int .u64 c10.l3), (.int .u64 c10.l4)], 30, true⟩, ⟨(β3 10), #[(.int .u64 c8.l0), (.int .u64 c8.l1), (.int .u64 c8.l2), (.int .u64 c8.l3), (.int .u64 c8.l4)], 30, true⟩, ⟨(β2 11), #[(.int .u64 c6.l0), (.int .u64 c6.l1), (.int .u64 c6.l2), (.int .u64 c6.l3), (.int .u64 c6.l4)], 30, true⟩, ⟨(β1 11), #[(.int .u64 c3.l0), (.int .u64 c3.l1), (.int .u64 c3.l2), (.int .u64 c3.l3), (.int .u64 c3.l4)], 30, true⟩, ⟨b2, #[(.int .u64 0), (.int .u64 0), (.int .u64 0), (.int .u64 0), (.int .u64 0), (.int .u64 0), (.int .u64 0), (.int .u64 0), (.int .u64 0), (.int .u64 0), (.int .u64 0), (.int .u64 0), (.int .u64 0), (.int .u64 0), (.int .u64 0), (.int .u64 0), (.int .u64 0), (.int .u64 0), (.int .u64 0), (.int .u64 0)], 49, true⟩, ⟨b1, #[(.int .u64 qx.l0), (.int .u64 qx.l1), (.int .u64 qx.l2), (.int .u64 qx.l3), (.int .u64 qx.l4), (.int .u64 qy.l0), (.int .u64 qy.l1), (.int .u64 qy.l2), (.int .u64 qy.l3), (.int .u64 qy.l4), (.int .u64 qz.l0), (.int .u64 qz.l1), (.int .u64 qz.l2), (.int .u64 qz.l3), (.int .u64 qz.l4), (.int .u64 qt.l0), (.int .u64 qt.l1), (.int .u64 qt.l2), (.int .u64 qt.l3), (.int .u64 qt.l4)], 49, true⟩, ⟨b0, #[(.int .u64 px.l0), (.int .u64 px.l1), (.int .u64 px.l2), (.int .u64 px.l3), (.int .u64 px.l4), (.int .u64 py.l0), (.int .u64 py.l1), (.int .u64 py.l2), (.int .u64 py.l3), (.int .u64 py.l4), (.int .u64 pz.l0), (.int .u64 pz.l1), (.int .u64 pz.l2), (.int .u64 pz.l3), (.int .u64 pz.l4), (.int .u64 pt.l0), (.int .u64 pt.l1), (.int .u64 pt.l2), (.int .u64 pt.l3), (.int .u64 pt.l4)], 49, true⟩, ⟨bc, #[(.int .u64 d.l0), (.int .u64 d.l1), (.int .u64 d.l2), (.int .u64 d.l3), (.int .u64 d.l4), (.int .u64 e.l0), (.int .u64 e.l1), (.int .u64 e.l2), (.int .u64 e.l3), (.int .u64 e.l4), (.int .u64 x0.l0), (.int .u64 x0.l1), (.int .u64 x0.l2), (.int .u64 x0.l3), (.int .u64 x0.l4), (.int .u64 y0.l0), (.int .u64 y0.l1), (.int .u64 y0.l2), (.int .u64 y0.l3), (.int .u64 y0.l4), (.int .u64 z0.l0), (.int .u64 z0.l1), (.int .u64 z0.l2), (.int .u64 z0.l3), (.int .u64 z0.l4), (.int .u64 t0.l0), (.int .u64 t0.l1), (.int .u64 t0.l2), (.int .u64 t0.l3), (.int .u64 t0.l4)], 55, false⟩] := hM
  refine T_store 1 hn hM rfl rfl rfl rfl rfl rfl rfl (c' := #[(.int .u64 c12.l0), (.int .u64 c12.l1), (.int .u64 c12.l2), (.int .u64 c12.l3), (.int .u64 c12.l4)]) (sets_row sz30 rfl rfl rfl) (fun w hM => ?_)
  replace hM : Mem _ _ w [⟨(β4 12), #[(.int .u64 c11.l0), (.int .u64 c11.l1), (.int .u64 c11.l2), (.int .u64 c11.l3), (.int .u64 c11.l4)], 30, true⟩, ⟨(β4 13), #[(.int .u64 c12.l0), (.int .u64 c12.l1), (.int .u64 c12.l2), (.int .u64 c12.l3), (.int .u64 c12.l4)], 30, true⟩, ⟨(β4 14), #[(.int .u64 0), (.int .u64 0), (.int .u64 0), (.int .u64 0), (.int .u64 0)], 30, true⟩, ⟨(β4 15), #[(.int .u64 0), (.int .u64 0), (.int .u64 0), (.int .u64 0), (.int .u64 0)], 30, true⟩, ⟨b3, #[(.int .u64 c10.l0), (.int .u64 c10.l1), (.int .u64 c10.l2), (.int .u64 c10.l3), (.int .u64 c10.l4)], 30, true⟩, ⟨(β3 10), #[(.int .u64 c8.l0), (.int .u64 c8.l1), (.int .u64 c8.l2), (.int .u64 c8.l3), (.int .u64 c8.l4)], 30, true⟩, ⟨(β2 11), #[(.int .u64 c6.l0), (.int .u64 c6.l1), (.int .u64 c6.l2), (.int .u64 c6.l3), (.int .u64 c6.l4)], 30, true⟩, ⟨(β1 11), #[(.int .u64 c3.l0), (.int .u64 c3.l1), (.int .u64 c3.l2), (.int .u64 c3.l3), (.int .u64 c3.l4)], 30, true⟩, ⟨b2, #[(.int .u64 0), (.int .u64 0), (.int .u64 0), (.int .u64 0), (.int .u64 0), (.int .u64 0), (.int .u64 0), (.int .u64 0), (.int .u64 0), (.int .u64 0), (.int .u64 0), (.int .u64 0), (.int .u64 0), (.int .u64 0), (.int .u64 0), (.int .u64 0), (.int .u64 0), (.int .u64 0), (.int .u64 0), (.int .u64 0)], 49, true⟩, ⟨b1, #[(.int .u64 qx.l0), (.int .u64 qx.l1), (.int .u64 qx.l2), (.int .u64 qx.l3), (.int .u64 qx.l4), (.int .u64 qy.l0), (.int .u64 qy.l1), (.int .u64 qy.l2), (.int .u64 qy.l3), (.int .u64 qy.l4), (.int .u64 qz.l0), (.int .u64 qz.l1), (.int .u64 qz.l2), (.int .u64 qz.l3), (.int .u64 qz.l4), (.int .u64 qt.l0), (.int .u64 qt.l1), (.int .u64 qt.l2), (.int .u64 qt.l3), (.int .u64 qt.l4)], 49, true⟩, ⟨b0, #[(.int .u64 px.l0), (.int .u64 px.l1), (.int .u64 px.l2), (.int .u64 px.l3), (.int .u64 px.l4), (.int .u64 py.l0), (.int .u64 py.l1), (.int .u64 py.l2), (.int .u64 py.l3), (.int .u64 py.l4), (.int .u64 pz.l0), (.int .u64 pz.l1), (.int .u64 pz.l2), (.int .u64 pz.l3), (.int .u64 pz.l4), (.int .u64 pt.l0), (.int .u64 pt.l1), (.int .u64 pt.l2), (.int .u64 pt.l3), (.int .u64 pt.l4)], 49, true⟩, ⟨bc, #[(.int .u64 d.l0), (.int .u64 d.l1), (.int .u64 d.l2), (.int .u64 d.l3), (.int .u64 d.l4), (.int .u64 e.l0), (.int .u64 e.l1), (.int .u64 e.l2), (.int .u64 e.l3), (.int .u64 e.l4), (.int .u64 x0.l0), (.int .u64 x0.l1), (.int .u64 x0.l2), (.int .u64 x0.l3), (.int .u64 x0.l4), (.int .u64 y0.l0), (.int .u64 y0.l1), (.int .u64 y0.l2), (.int .u64 y0.l3), (.int .u64 y0.l4), (.int .u64 z0.l0), (.int .u64 z0.l1), (.int .u64 z0.l2), (.int .u64 z0.l3), (.int .u64 z0.l4), (.int .u64 t0.l0), (.int .u64 t0.l1), (.int .u64 t0.l2), (.int .u64 t0.l3), (.int .u64 t0.l4)], 55, false⟩] := hM
  refine T_store 2 hn hM rfl rfl rfl rfl rfl rfl rfl (c' := #[(.int .u64 c13.l0), (.int .u64 c13.l1), (.int .u64 c13.l2), (.int .u64 c13.l3), (.int .u64 c13.l4)]) (sets_row sz30 rfl rfl rfl) (fun w hM => ?_)
  replace hM : Mem _ _ w [⟨(β4 12), #[(.int .u64 c11.l0), (.int .u64 c11.l1), (.int .u64 c11.l2), (.int .u64 c11.l3), (.int .u64 c11.l4)], 30, true⟩, ⟨(β4 13), #[(.int .u64 c12.l0), (.int .u64 c12.l1), (.int .u64 c12.l2), (.int .u64 c12.l3), (.int .u64 c12.l4)], 30, true⟩, ⟨(β4 14), #[(.int .u64 c13.l0), (.int .u64 c13.l1), (.int .u64 c13.l2), (.int .u64 c13.l3), (.int .u64 c13.l4)], 30, true⟩, ⟨(β4 15), #[(.int .u64 0), (.int .u64 0), (.int .u64 0), (.int .u64 0), (.int .u64 0)], 30, true⟩, ⟨b3, #[(.int .u64 c10.l0), (.int .u64 c10.l1), (.int .u64 c10.l2), (.int .u64 c10.l3), (.int .u64 c10.l4)], 30, true⟩, ⟨(β3 10), #[(.int .u64 c8.l0), (.int .u64 c8.l1), (.int .u64 c8.l2), (.int .u64 c8.l3), (.int .u64 c8.l4)], 30, true⟩, ⟨(β2 11), #[(.int .u64 c6.l0), (.int .u64 c6.l1), (.int .u64 c6.l2), (.int .u64 c6.l3), (.int .u64 c6.l4)], 30, true⟩, ⟨(β1 11), #[(.int .u64 c3.l0), (.int .u64 c3.l1), (.int .u64 c3.l2), (.int .u64 c3.l3), (.int .u64 c3.l4)], 30, true⟩, ⟨b2, #[(.int .u64 0), (.int .u64 0), (.int .u64 0), (.int .u64 0), (.int .u64 0), (.int .u64 0), (.int .u64 0), (.int .u64 0), (.int .u64 0), (.int .u64 0), (.int .u64 0), (.int .u64 0), (.int .u64 0), (.int .u64 0), (.int .u64 0), (.int .u64 0), (.int .u64 0), (.int .u64 0), (.int .u64 0), (.int .u64 0)], 49, true⟩, ⟨b1, #[(.int .u64 qx.l0), (.int .u64 qx.l1), (.int .u64 qx.l2), (.int .u64 qx.l3), (.int .u64 qx.l4), (.int .u64 qy.l0), (.int .u64 qy.l1), (.int .u64 qy.l2), (.int .u64 qy.l3), (.int .u64 qy.l4), (.int .u64 qz.l0), (.int .u64 qz.l1), (.int .u64 qz.l2), (.int .u64 qz.l3), (.int .u64 qz.l4), (.int .u64 qt.l0), (.int .u64 qt.l1), (.int .u64 qt.l2), (.int .u64 qt.l3), (.int .u64 qt.l4)], 49, true⟩, ⟨b0, #[(.int .u64 px.l0), (.int .u64 px.l1), (.int .u64 px.l2), (.int .u64 px.l3), (.int .u64 px.l4), (.int .u64 py.l0), (.int .u64 py.l1), (.int .u64 py.l2), (.int .u64 py.l3), (.int .u64 py.l4), (.int .u64 pz.l0), (.int .u64 pz.l1), (.int .u64 pz.l2), (.int .u64 pz.l3), (.int .u64 pz.l4), (.int .u64 pt.l0), (.int .u64 pt.l1), (.int .u64 pt.l2), (.int .u64 pt.l3), (.int .u64 pt.l4)], 49, true⟩, ⟨bc, #[(.int .u64 d.l0), (.int .u64 d.l1), (.int .u64 d.l2), (.int .u64 d.l3), (.int .u64 d.l4), (.int .u64 e.l0), (.int .u64 e.l1), (.int .u64 e.l2), (.int .u64 e.l3), (.int .u64 e.l4), (.int .u64 x0.l0), (.int .u64 x0.l1), (.int .u64 x0.l2), (.int .u64 x0.l3), (.int .u64 x0.l4), (.int .u64 y0.l0), (.int .u64 y0.l1), (.int .u64 y0.l2), (.int .u64 y0.l3), (.int .u64 y0.l4), (.int .u64 z0.l0), (.int .u64 z0.l1), (.int .u64 z0.l2), (.int .u64 z0.l3), (.int .u64 z0.l4), (.int .u64 t0.l0), (.int .u64 t0.l1), (.int .u64 t0.l2), (.int .u64 t0.l3), (.int .u64 t0.l4)], 55, false⟩] := hM
  refine T_store 3 hn hM rfl rfl rfl rfl rfl rfl rfl (c' := #[(.int .u64 c14.l0), (.int .u64 c14.l1), (.int .u64 c14.l2), (.int .u64 c14.l3), (.int .u64 c14.l4)]) (sets_row sz30 rfl rfl rfl) (fun w hM => ?_)
  replace hM : Mem _ _ w [⟨(β4 12), #[(.int .u64 c11.l0), (.int .u64 c11.l1), (.int .u64 c11.l2), (.int .u64 c11.l3), (.int .u64 c11.l4)], 30, true⟩, ⟨(β4 13), #[(.int .u64 c12.l0), (.int .u64 c12.l1), (.int .u64 c12.l2), (.int .u64 c12.l3), (.int .u64 c12.l4)], 30, true⟩, ⟨(β4 14), #[(.int .u64 c13.l0), (.int .u64 c13.l1), (.int .u64 c13.l2), (.int .u64 c13.l3), (.int .u64 c13.l4)], 30, true⟩, ⟨(β4 15), #[(.int .u64 c14.l0), (.int .u64 c14.l1), (.int .u64 c14.l2), (.int .u64 c14.l3), (.int .u64 c14.l4)], 30, true⟩, ⟨b3, #[(.int .u64 c10.l0), (.int .u64 c10.l1), (.int .u64 c10.l2), (.int .u64 c10.l3), (.int .u64 c10.l4)], 30, true⟩, ⟨(β3 10), #[(.int .u64 c8.l0), (.int .u64 c8.l1), (.int .u64 c8.l2), (.int .u64 c8.l3), (.int .u64 c8.l4)], 30, true⟩, ⟨(β2 11), #[(.int .u64 c6.l0), (.int .u64 c6.l1), (.int .u64 c6.l2), (.int .u64 c6.l3), (.int .u64 c6.l4)], 30, true⟩, ⟨(β1 11), #[(.int .u64 c3.l0), (.int .u64 c3.l1), (.int .u64 c3.l2), (.int .u64 c3.l3), (.int .u64 c3.l4)], 30, true⟩, ⟨b2, #[(.int .u64 0), (.int .u64 0), (.int .u64 0), (.int .u64 0), (.int .u64 0), (.int .u64 0), (.int .u64 0), (.int .u64 0), (.int .u64 0), (.int .u64 0), (.int .u64 0), (.int .u64 0), (.int .u64 0), (.int .u64 0), (.int .u64 0), (.int .u64 0), (.int .u64 0), (.int .u64 0), (.int .u64 0), (.int .u64 0)], 49, true⟩, ⟨b1, #[(.int .u64 qx.l0), (.int .u64 qx.l1), (.int .u64 qx.l2), (.int .u64 qx.l3), (.int .u64 qx.l4), (.int .u64 qy.l0), (.int .u64 qy.l1), (.int .u64 qy.l2), (.int .u64 qy.l3), (.int .u64 qy.l4), (.int .u64 qz.l0), (.int .u64 qz.l1), (.int .u64 qz.l2), (.int .u64 qz.l3), (.int .u64 qz.l4), (.int .u64 qt.l0), (.int .u64 qt.l1), (.int .u64 qt.l2), (.int .u64 qt.l3), (.int .u64 qt.l4)], 49, true⟩, ⟨b0, #[(.int .u64 px.l0), (.int .u64 px.l1), (.int .u64 px.l2), (.int .u64 px.l3), (.int .u64 px.l4), (.int .u64 py.l0), (.int .u64 py.l1), (.int .u64 py.l2), (.int .u64 py.l3), (.int .u64 py.l4), (.int .u64 pz.l0), (.int .u64 pz.l1), (.int .u64 pz.l2), (.int .u64 pz.l3), (.int .u64 pz.l4), (.int .u64 pt.l0), (.int .u64 pt.l1), (.int .u64 pt.l2), (.int .u64 pt.l3), (.int .u64 pt.l4)], 49, true⟩, ⟨bc, #[(.int .u64 d.l0), (.int .u64 d.l1), (.int .u64 d.l2), (.int .u64 d.l3), (.int .u64 d.l4), (.int .u64 e.l0), (.int .u64 e.l1), (.int .u64 e.l2), (.int .u64 e.l3), (.int .u64 e.l4), (.int .u64 x0.l0), (.int .u64 x0.l1), (.int .u64 x0.l2), (.int .u64 x0.l3), (.int .u64 x0.l4), (.int .u64 y0.l0), (.int .u64 y0.l1), (.int .u64 y0.l2), (.int .u64 y0.l3), (.int .u64 y0.l4), (.int .u64 z0.l0), (.int .u64 z0.l1), (.int .u64 z0.l2), (.int .u64 z0.l3), (.int .u64 z0.l4), (.int .u64 t0.l0), (.int .u64 t0.l1), (.int .u64 t0.l2), (.int .u64 t0.l3), (.int .u64 t0.l4)], 55, false⟩] := hM
  refine T_nil ?_
  refine wp_seq ?_
  refine R_any [.val, .val, .val, .val, .val, .val, .val, .val, .val, .val, .val] 11 [] [] hn hM rfl (by kernel_rfl) (by kernel_rfl) rfl rfl rfl ?_
  refine E_val 67 rfl rfl rfl rfl (v := (.agg #[(.int .u64 c11.l0), (.int .u64 c11.l1), (.int .u64 c11.l2), (.int .u64 c11.l3), (.int .u64 c11.l4)])) (g_loadRow 0 [(.int .u64 c11.l0), (.int .u64 c11.l1), (.int .u64 c11.l2), (.int .u64 c11.l3), (.int .u64 c11.l4)] rfl rfl rfl Tryd.underlying30 rfl sz30 rfl) ?_
  refine E_val 68 rfl rfl rfl rfl (v := (.agg #[(.int .u64 c12.l0), (.int .u64 c12.l1), (.int .u64 c12.l2), (.int .u64 c12.l3), (.int .u64 c12.l4)])) (g_loadRow 1 [(.int .u64 c12.l0), (.int .u64 c12.l1), (.int .u64 c12.l2), (.int .u64 c12.l3), (.int .u64 c12.l4)] rfl rfl rfl Tryd.underlying30 rfl sz30 rfl) ?_
  refine E_call 69 rfl rfl rfl rfl (v := c15.v) (g_call pc15 rfl rfl rfl Tryd.func10 nm10 bd10) ?_
  refine E_val 70 rfl rfl rfl rfl (v := (.agg #[(.int .u64 c13.l0), (.int .u64 c13.l1), (.int .u64 c13.l2), (.int .u64 c13.l3), (.int .u64 c13.l4)])) (g_loadRow 2 [(.int .u64 c13.l0), (.int .u64 c13.l1), (.int .u64 c13.l2), (.int .u64 c13.l3), (.int .u64 c13.l4)] rfl rfl rfl Tryd.underlying30 rfl sz30 rfl) ?_
  refine E_val 71 rfl rfl rfl rfl (v := (.agg #[(.int .u64 c14.l0), (.int .u64 c14.l1), (.int .u64 c14.l2), (.int .u64 c14.l3), (.int .u64 c14.l4)])) (g_loadRow 3 [(.int .u64 c14.l0), (.int .u64 c14.l1), (.int .u64 c14.l2), (.int .u64 c14.l3), (.int .u64 c14.l4)] rfl rfl rfl Tryd.underlying30 rfl sz30 rfl) ?_
  refine E_call 72 rfl rfl rfl rfl (v := c16.v) (g_call pc16 rfl rfl rfl Tryd.func10 nm10 bd10) ?_
  refine E_val 73 rfl rfl rfl rfl (v := (.agg #[(.int .u64 c12.l0), (.int .u64 c12.l1), (.int .u64 c12.l2), (.int .u64 c12.l3), (.int .u64 c12.l4)])) (g_loadRow 1 [(.int .u64 c12.l0), (.int .u64 c12.l1), (.int .u64 c12.l2), (.int .u64 c12.l3), (.int .u64 c12.l4)] rfl rfl rfl Tryd.underlying30 rfl sz30 rfl) ?_
  refine E_val 74 rfl rfl rfl rfl (v := (.agg #[(.int .u64 c13.l0), (.int .u64 c13.l1), (.int .u64 c13.l2), (.int .u64 c13.l3), (.int .u64 c13.l4)])) (g_loadRow 2 [(.int .u64 c13.l0), (.int .u64 c13.l1), (.int .u64 c13.l2), (.int .u64 c13.l3), (.int .u64 c13.l4)] rfl rfl rfl Tryd.underlying30 rfl sz30 rfl) ?_
  refine E_call 75 rfl rfl rfl rfl (v := c17.v) (g_call pc17 rfl rfl rfl Tryd.func10 nm10 bd10) ?_
  refine E_val 76 rfl rfl rfl rfl (v := (.agg #[(.int .u64 c11.l0), (.int .u64 c11.l1), (.int .u64 c11.l2), (.int .u64 c11.l3), (.int .u64 c11.l4)])) (g_loadRow 0 [(.int .u64 c11.l0), (.int .u64 c11.l1), (.int .u64 c11.l2), (.int .u64 c11.l3), (.int .u64 c11.l4)] rfl rfl rfl Tryd.underlying30 rfl sz30 rfl) ?_
  refine E_val 77 rfl rfl rfl rfl (v := (.agg #[(.int .u64 c14.l0), (.int .u64 c14.l1), (.int .u64 c14.l2), (.int .u64 c14.l3), (.int .u64 c14.l4)])) (g_loadRow 3 [(.int .u64 c14.l0), (.int .u64 c14.l1), (.int .u64 c14.l2), (.int .u64 c14.l3), (.int .u64 c14.l4)] rfl rfl rfl Tryd.underlying30 rfl sz30 rfl) ?_
  refine E_nil ?_
  refine ⟨?_, fun β5 w hM => ?_⟩
  · skip
    refine M_val rfl ?_
    refine M_val rfl ?_
    refine M_val rfl ?_
    refine M_val rfl ?_
    refine M_val rfl ?_
    refine M_val rfl ?_
    refine M_val rfl ?_
    refine M_val rfl ?_
    refine M_val rfl ?_
    refine M_val rfl ?_
    refine M_val rfl ?_
    exact M_nil
  show wpList _ _ _ (_ :: _) (putAll _ (_)) _
  refine T_call 78 hn hM rfl rfl rfl (v := c18.v) (g_call pc18 rfl rfl rfl Tryd.func10 nm10 bd10) (fun w hM => ?_)
  refine T_val 79 hn hM rfl rfl rfl (v := (.agg #[(.int .u64 c15.l0), (.int .u64 c15.l1), (.int .u64 c15.l2), (.int .u64 c15.l3), (.int .u64 c15.l4), (.int .u64 c16.l0), (.int .u64 c16.l1), (.int .u64 c16.l2), (.int .u64 c16.l3), (.int .u64 c16.l4), (.int .u64 c17.l0), (.int .u64 c17.l1), (.int .u64 c17.l2), (.int .u64 c17.l3), (.int .u64 c17.l4), (.int .u64 c18.l0), (.int .u64 c18.l1), (.int .u64 c18.l2), (.int .u64 c18.l3), (.int .u64 c18.l4)])) (g_build rfl (by kernel_rfl)) ?_
  refine T_store 8 hn hM rfl rfl rfl rfl rfl rfl rfl (c' := #[(.int .u64 c15.l0), (.int .u64 c15.l1), (.int .u64 c15.l2), (.int .u64 c15.l3), (.int .u64 c15.l4), (.int .u64 c16.l0), (.int .u64 c16.l1), (.int .u64 c16.l2), (.int .u64 c16.l3), (.int .u64 c16.l4), (.int .u64 c17.l0), (.int .u64 c17.l1), (.int .u64 c17.l2), (.int .u64 c17.l3), (.int .u64 c17.l4), (.int .u64 c18.l0), (.int .u64 c18.l1), (.int .u64 c18.l2), (.int .u64 c18.l3), (.int .u64 c18.l4)]) (sets_row sz49 rfl rfl rfl) (fun w hM => ?_)
  replace hM : Mem _ _ w [⟨(β4 12), #[(.int .u64 c11.l0), (.int .u64 c11.l1), (.int .u64 c11.l2), (.int .u64 c11.l3), (.int .u64 c11.l4)], 30, true⟩, ⟨(β4 13), #[(.int .u64 c12.l0), (.int .u64 c12.l1), (.int .u64 c12.l2), (.int .u64 c12.l3), (.int .u64 c12.l4)], 30, true⟩, ⟨(β4 14), #[(.int .u64 c13.l0), (.int .u64 c13.l1), (.int .u64 c13.l2), (.int .u64 c13.l3), (.int .u64 c13.l4)], 30, true⟩, ⟨(β4 15), #[(.int .u64 c14.l0), (.int .u64 c14.l1), (.int .u64 c14.l2), (.int .u64 c14.l3), (.int .u64 c14.l4)], 30, true⟩, ⟨b3, #[(.int .u64 c10.l0), (.int .u64 c10.l1), (.int .u64 c10.l2), (.int .u64 c10.l3), (.int .u64 c10.l4)], 30, true⟩, ⟨(β3 10), #[(.int .u64 c8.l0), (.int .u64 c8.l1), (.int .u64 c8.l2), (.int .u64 c8.l3), (.int .u64 c8.l4)], 30, true⟩, ⟨(β2 11), #[(.int .u64 c6.l0), (.int .u64 c6.l1), (.int .u64 c6.l2), (.int .u64 c6.l3), (.int .u64 c6.l4)], 30, true⟩, ⟨(β1 11), #[(.int .u64 c3.l0), (.int .u64 c3.l1), (.int .u64 c3.l2), (.int .u64 c3.l3), (.int .u64 c3.l4)], 30, true⟩, ⟨b2, #[(.int .u64 c15.l0), (.int .u64 c15.l1), (.int .u64 c15.l2), (.int .u64 c15.l3), (.int .u64 c15.l4), (.int .u64 c16.l0), (.int .u64 c16.l1), (.int .u64 c16.l2), (.int .u64 c16.l3), (.int .u64 c16.l4), (.int .u64 c17.l0), (.int .u64 c17.l1), (.int .u64 c17.l2), (.int .u64 c17.l3), (.int .u64 c17.l4), (.int .u64 c18.l0), (.int .u64 c18.l1), (.int .u64 c18.l2), (.int .u64 c18.l3), (.int .u64 c18.l4)], 49, true⟩, ⟨b1, #[(.int .u64 qx.l0), (.int .u64 qx.l1), (.int .u64 qx.l2), (.int .u64 qx.l3), (.int .u64 qx.l4), (.int .u64 qy.l0), (.int .u64 qy.l1), (.int .u64 qy.l2), (.int .u64 qy.l3), (.int .u64 qy.l4), (.int .u64 qz.l0), (.int .u64 qz.l1), (.int .u64 qz.l2), (.int .u64 qz.l3), (.int .u64 qz.l4), (.int .u64 qt.l0), (.int .u64 qt.l1), (.int .u64 qt.l2), (.int .u64 qt.l3), (.int .u64 qt.l4)], 49, true⟩, ⟨b0, #[(.int .u64 px.l0), (.int .u64 px.l1), (.int .u64 px.l2), (.int .u64 px.l3), (.int .u64 px.l4), (.int .u64 py.l0), (.int .u64 py.l1), (.int .u64 py.l2), (.int .u64 py.l3), (.int .u64 py.l4), (.int .u64 pz.l0), (.int .u64 pz.l1), (.int .u64 pz.l2), (.int .u64 pz.l3), (.int .u64 pz.l4), (.int .u64 pt.l0), (.int .u64 pt.l1), (.int .u64 pt.l2), (.int .u64 pt.l3), (.int .u64 pt.l4)], 49, true⟩, ⟨bc, #[(.int .u64 d.l0), (.int .u64 d.l1), (.int .u64 d.l2), (.int .u64 d.l3), (.int .u64 d.l4), (.int .u64 e.l0), (.int .u64 e.l1), (.int .u64 e.l2), (.int .u64 e.l3), (.int .u64 e.l4), (.int .u64 x0.l0), (.int .u64 x0.l1), (.int .u64 x0.l2), (.int .u64 x0.l3), (.int .u64 x0.l4), (.int .u64 y0.l0), (.int .u64 y0.l1), (.int .u64 y0.l2), (.int .u64 y0.l3), (.int .u64 y0.l4), (.int .u64 z0.l0), (.int .u64 z0.l1), (.int .u64 z0.l2), (.int .u64 z0.l3), (.int .u64 z0.l4), (.int .u64 t0.l0), (.int .u64 t0.l1), (.int .u64 t0.l2), (.int .u64 t0.l3), (.int .u64 t0.l4)], 55, false⟩] := hM
  refine T_nil ?_
  refine wp_ret ?_
  refine leave (.inl rfl) hn hdf hM rfl Tryd.results43 (vs := [(.agg #[(.int .u64 c15.l0), (.int .u64 c15.l1), (.int .u64 c15.l2), (.int .u64 c15.l3), (.int .u64 c15.l4), (.int .u64 c16.l0), (.int .u64 c16.l1), (.int .u64 c16.l2), (.int .u64 c16.l3), (.int .u64 c16.l4), (.int .u64 c17.l0), (.int .u64 c17.l1), (.int .u64 c17.l2), (.int .u64 c17.l3), (.int .u64 c17.l4), (.int .u64 c18.l0), (.int .u64 c18.l1), (.int .u64 c18.l2), (.int .u64 c18.l3), (.int .u64 c18.l4)])]) (.row 8 rfl rfl Tryd.underlying49 rfl sz49 .nil) ?_
  exact ⟨rfl, hM.done⟩

theorem nm12 : (Tryd.f12.name == "runtime.NumGoroutine") = false := by kernel_rfl
theorem bd12 : Tryd.f12.body.isNone = false := by kernel_rfl
theorem nm39 : (Tryd.f39.name == "runtime.NumGoroutine") = false := by kernel_rfl
theorem bd39 : Tryd.f39.body.isNone = false := by kernel_rfl
theorem nm40 : (Tryd.f40.name == "runtime.NumGoroutine") = false := by kernel_rfl
theorem bd40 : Tryd.f40.body.isNone = false := by kernel_rfl

set_option maxHeartbeats 1000000 in
set_option maxRecDepth 100000 in
theorem begin_E : ∃ d e x y t : El, IsL d ((0 - (toF 121665)) * (inv (toF 121666))) ∧ IsL e (((0 - (toF 121665)) * (inv (toF 121666))) + ((0 - (toF 121665)) * (inv (toF 121666)))) ∧ IsL x (rootV ((((toF 4) * (inv (toF 5))) * ((toF 4) * (inv (toF 5)))) - (toF 1)) ((((0 - (toF 121665)) * (inv (toF 121666))) * (((toF 4) * (inv (toF 5))) * ((toF 4) * (inv (toF 5))))) + (toF 1))).1 ∧ IsL y ((toF 4) * (inv (toF 5))) ∧ IsL t ((rootV ((((toF 4) * (inv (toF 5))) * ((toF 4) * (inv (toF 5)))) - (toF 1)) ((((0 - (toF 121665)) * (inv (toF 121666))) * (((toF 4) * (inv (toF 5))) * ((toF 4) * (inv (toF 5))))) + (toF 1))).1 * ((toF 4) * (inv (toF 5)))) ∧ ∀ w, Calls Tryd.prog 19 #[] w fun r w' => ∃ b, r = .returned (.pointer (some ⟨b, 0, none⟩)) ∧ w.heap.size ≤ b ∧ w'.heap[b]? = some (.cells (cvA d e x y ⟨1, 0, 0, 0, 0⟩ t) 55 (0, 0)) ∧ Below w.heap.size w w' := by
  obtain ⟨c1, hc1, pc1⟩ := neg_E (small_E 121665 (by decide)).1
  obtain ⟨c2, hc2, pc2⟩ := invert_E (small_E 121666 (by decide)).1
  obtain ⟨c3, hc3, pc3⟩ := mul_E hc1 hc2
  obtain ⟨c4, hc4, pc4⟩ := add_E hc3 hc3
  obtain ⟨c5, hc5, pc5⟩ := invert_E (small_E 5 (by decide)).1
  obtain ⟨c6, hc6, pc6⟩ := mul_E (small_E 4 (by decide)).1 hc5
  obtain ⟨c7, hc7, pc7⟩ := across_E (d := c3) (e := c4) (x0 := ⟨0, 0, 0, 0, 0⟩) (y0 := ⟨0, 0, 0, 0, 0⟩) (z0 := ⟨0, 0, 0, 0, 0⟩) (t0 := ⟨0, 0, 0, 0, 0⟩) hc3 hc6
  obtain ⟨c8, hc8, pc8⟩ := flat_E hc7 hc6
  refine ⟨c3, c4, c7, c6, c8, hc3, hc4, hc7, hc6, hc8, fun w => ?_⟩
  refine enter Tryd.func19 rfl Tryd.ntmps19 (Nat.le_of_ble_eq_true rfl) fun A hn hdf => ?_
  have hM : Mem w [] w [] := Mem.start w
  replace hM := hM
  refine wp_seq ?_
  refine wp_region_lit ?_
  refine T_val 0 hn hM rfl rfl rfl (v := (.pointer none)) (g_assign rfl rfl) ?_
  refine T_nil ?_
  refine wp_seq ?_
  refine wp_region_lit ?_
  refine T_call 5 hn hM rfl rfl rfl (v := (⟨121665, 0, 0, 0, 0⟩ : El).v) (g_call (small_E 121665 (by decide)).2 rfl rfl rfl Tryd.func8 nm8 bd8) (fun w hM => ?_)
  refine T_call 6 hn hM rfl rfl rfl (v := c1.v) (g_call pc1 rfl rfl rfl Tryd.func38 nm38 bd38) (fun w hM => ?_)
  refine T_call 7 hn hM rfl rfl rfl (v := (⟨121666, 0, 0, 0, 0⟩ : El).v) (g_call (small_E 121666 (by decide)).2 rfl rfl rfl Tryd.func8 nm8 bd8) (fun w hM => ?_)
  refine T_call 8 hn hM rfl rfl rfl (v := c2.v) (g_call pc2 rfl rfl rfl Tryd.func12 nm12 bd12) (fun w hM => ?_)
  refine T_call 9 hn hM rfl rfl rfl (v := c3.v) (g_call pc3 rfl rfl rfl Tryd.func10 nm10 bd10) (fun w hM => ?_)
  refine T_val 10 hn hM rfl rfl rfl (v := (.agg #[(.int .u64 c3.l0), (.int .u64 c3.l1), (.int .u64 c3.l2), (.int .u64 c3.l3), (.int .u64 c3.l4), (.int .u64 0), (.int .u64 0), (.int .u64 0), (.int .u64 0), (.int .u64 0), (.int .u64 0), (.int .u64 0), (.int .u64 0), (.int .u64 0), (.int .u64 0), (.int .u64 0), (.int .u64 0), (.int .u64 0), (.int .u64 0), (.int .u64 0), (.int .u64 0), (.int .u64 0), (.int .u64 0), (.int .u64 0), (.int .u64 0), (.int .u64 0), (.int .u64 0), (.int .u64 0), (.int .u64 0), (.int .u64 0)])) (g_build rfl (by kernel_rfl)) ?_
  refine T_box 11 hn hM rfl rfl rfl rfl rfl #[(.int .u64 c3.l0), (.int .u64 c3.l1), (.int .u64 c3.l2), (.int .u64 c3.l3), (.int .u64 c3.l4), (.int .u64 0), (.int .u64 0), (.int .u64 0), (.int .u64 0), (.int .u64 0), (.int .u64 0), (.int .u64 0), (.int .u64 0), (.int .u64 0), (.int .u64 0), (.int .u64 0), (.int .u64 0), (.int .u64 0), (.int .u64 0), (.int .u64 0), (.int .u64 0), (.int .u64 0), (.int .u64 0), (.int .u64 0), (.int .u64 0), (.int .u64 0), (.int .u64 0), (.int .u64 0), (.int .u64 0), (.int .u64 0)] rfl (fun b0 w hM => ?_)
  refine T_val 1 hn hM rfl rfl rfl (v := (.pointer (some ⟨b0, 0, none⟩))) (g_assign rfl rfl) ?_
  refine T_nil ?_
  refine wp_seq ?_
  refine R_any [.val, .val, .val, .val, .val, .val, .val, .val, .val, .val] 10 [] [] hn hM rfl (by kernel_rfl) (by kernel_rfl) rfl rfl rfl ?_
  refine E_val 12 rfl rfl rfl rfl (v := (.pointer (some ⟨b0, 0, none⟩))) (g_move rfl rfl) ?_
  refine E_val 13 rfl rfl rfl rfl (v := (.pointer (some ⟨b0, 0, none⟩))) (g_move rfl rfl) ?_
  refine E_val 14 rfl rfl rfl rfl (v := (.pointer (some ⟨b0, 0, none⟩))) (g_nilCheck rfl rfl) ?_
  refine E_val 15 rfl rfl rfl rfl (v := (.pointer (some ⟨b0, 0, none⟩))) (g_fieldAddr rfl rfl Tryd.underlying55 rfl Tryd.sizeOf30 0 rfl) ?_
  refine E_val 16 rfl rfl rfl rfl (v := (.agg #[(.int .u64 c3.l0), (.int .u64 c3.l1), (.int .u64 c3.l2), (.int .u64 c3.l3), (.int .u64 c3.l4)])) (g_loadRow 0 [(.int .u64 c3.l0), (.int .u64 c3.l1), (.int .u64 c3.l2), (.int .u64 c3.l3), (.int .u64 c3.l4)] rfl rfl rfl Tryd.underlying30 rfl sz30 rfl) ?_
  refine E_val 17 rfl rfl rfl rfl (v := (.pointer (some ⟨b0, 0, none⟩))) (g_move rfl rfl) ?_
  refine E_val 18 rfl rfl rfl rfl (v := (.pointer (some ⟨b0, 0, none⟩))) (g_nilCheck rfl rfl) ?_
  refine E_val 19 rfl rfl rfl rfl (v := (.pointer (some ⟨b0, 0, none⟩))) (g_fieldAddr rfl rfl Tryd.underlying55 rfl Tryd.sizeOf30 0 rfl) ?_
  refine E_val 20 rfl rfl rfl rfl (v := (.agg #[(.int .u64 c3.l0), (.int .u64 c3.l1), (.int .u64 c3.l2), (.int .u64 c3.l3), (.int .u64 c3.l4)])) (g_loadRow 0 [(.int .u64 c3.l0), (.int .u64 c3.l1), (.int .u64 c3.l2), (.int .u64 c3.l3), (.int .u64 c3.l4)] rfl rfl rfl Tryd.underlying30 rfl sz30 rfl) ?_
  refine E_call 21 rfl rfl rfl rfl (v := c4.v) (g_call pc4 rfl rfl rfl Tryd.func9 nm9 bd9) ?_
  refine E_nil ?_
  refine ⟨?_, fun β1 w hM => ?_⟩
  · skip
    refine M_val rfl ?_
    refine M_val rfl ?_
    refine M_val rfl ?_
    refine M_val rfl ?_
    refine M_val rfl ?_
    refine M_val rfl ?_
    refine M_val rfl ?_
    refine M_val rfl ?_
    refine M_val rfl ?_
    refine M_val rfl ?_
    exact M_nil
  show wpList _ _ _ (_ :: _) (putAll _ (_)) _
  refine T_val 22 hn hM rfl rfl rfl (v := (.pointer (some ⟨b0, 0, none⟩))) (g_nilCheck rfl rfl) ?_
  refine T_val 23 hn hM rfl rfl rfl (v := (.pointer (some ⟨b0, 5, none⟩))) (g_fieldAddr rfl rfl Tryd.underlying55 rfl Tryd.sizeOf30 5 rfl) ?_
  refine T_store 0 hn hM rfl rfl rfl rfl rfl rfl rfl (c' := #[(.int .u64 c3.l0), (.int .u64 c3.l1), (.int .u64 c3.l2), (.int .u64 c3.l3), (.int .u64 c3.l4), (.int .u64 c4.l0), (.int .u64 c4.l1), (.int .u64 c4.l2), (.int .u64 c4.l3), (.int .u64 c4.l4), (.int .u64 0), (.int .u64 0), (.int .u64 0), (.int .u64 0), (.int .u64 0), (.int .u64 0), (.int .u64 0), (.int .u64 0), (.int .u64 0), (.int .u64 0), (.int .u64 0), (.int .u64 0), (.int .u64 0), (.int .u64 0), (.int .u64 0), (.int .u64 0), (.int .u64 0), (.int .u64 0), (.int .u64 0), (.int .u64 0)]) (sets_row sz30 rfl rfl rfl) (fun w hM => ?_)
  replace hM : Mem _ _ w [⟨b0, #[(.int .u64 c3.l0), (.int .u64 c3.l1), (.int .u64 c3.l2), (.int .u64 c3.l3), (.int .u64 c3.l4), (.int .u64 c4.l0), (.int .u64 c4.l1), (.int .u64 c4.l2), (.int .u64 c4.l3), (.int .u64 c4.l4), (.int .u64 0), (.int .u64 0), (.int .u64 0), (.int .u64 0), (.int .u64 0), (.int .u64 0), (.int .u64 0), (.int .u64 0), (.int .u64 0), (.int .u64 0), (.int .u64 0), (.int .u64 0), (.int .u64 0), (.int .u64 0), (.int .u64 0), (.int .u64 0), (.int .u64 0), (.int .u64 0), (.int .u64 0), (.int .u64 0)], 55, true⟩] := hM
  refine T_nil ?_
  refine wp_seq ?_
  refine wp_region_lit ?_
  refine T_call 24 hn hM rfl rfl rfl (v := (⟨4, 0, 0, 0, 0⟩ : El).v) (g_call (small_E 4 (by decide)).2 rfl rfl rfl Tryd.func8 nm8 bd8) (fun w hM => ?_)
  refine T_call 25 hn hM rfl rfl rfl (v := (⟨5, 0, 0, 0, 0⟩ : El).v) (g_call (small_E 5 (by decide)).2 rfl rfl rfl Tryd.func8 nm8 bd8) (fun w hM => ?_)
  refine T_call 26 hn hM rfl rfl rfl (v := c5.v) (g_call pc5 rfl rfl rfl Tryd.func12 nm12 bd12) (fun w hM => ?_)
  refine T_call 27 hn hM rfl rfl rfl (v := c6.v) (g_call pc6 rfl rfl rfl Tryd.func10 nm10 bd10) (fun w hM => ?_)
  refine T_alloc 2 hn hM rfl rfl rfl rfl Tryd.zeroValue30 #[(.int .u64 0), (.int .u64 0), (.int .u64 0), (.int .u64 0), (.int .u64 0)] rfl (fun b1 w hM => ?_)
  refine T_store 0 hn hM rfl rfl rfl rfl rfl rfl rfl (c' := #[(.int .u64 c6.l0), (.int .u64 c6.l1), (.int .u64 c6.l2), (.int .u64 c6.l3), (.int .u64 c6.l4)]) (sets_row sz30 rfl rfl rfl) (fun w hM => ?_)
  replace hM : Mem _ _ w [⟨b1, #[(.int .u64 c6.l0), (.int .u64 c6.l1), (.int .u64 c6.l2), (.int .u64 c6.l3), (.int .u64 c6.l4)], 30, true⟩, ⟨b0, #[(.int .u64 c3.l0), (.int .u64 c3.l1), (.int .u64 c3.l2), (.int .u64 c3.l3), (.int .u64 c3.l4), (.int .u64 c4.l0), (.int .u64 c4.l1), (.int .u64 c4.l2), (.int .u64 c4.l3), (.int .u64 c4.l4), (.int .u64 0), (.int .u64 0), (.int .u64 0), (.int .u64 0), (.int .u64 0), (.int .u64 0), (.int .u64 0), (.int .u64 0), (.int .u64 0), (.int .u64 0), (.int .u64 0), (.int .u64 0), (.int .u64 0), (.int .u64 0), (.int .u64 0), (.int .u64 0), (.int .u64 0), (.int .u64 0), (.int .u64 0), (.int .u64 0)], 55, true⟩] := hM
  refine T_nil ?_
  refine wp_seq ?_
  refine wp_region_lit ?_
  refine T_val 29 hn hM rfl rfl rfl (v := (.pointer (some ⟨b0, 0, none⟩))) (g_move rfl rfl) ?_
  refine T_val 30 hn hM rfl rfl rfl (v := (.agg #[(.int .u64 c6.l0), (.int .u64 c6.l1), (.int .u64 c6.l2), (.int .u64 c6.l3), (.int .u64 c6.l4)])) (g_loadRow 0 [(.int .u64 c6.l0), (.int .u64 c6.l1), (.int .u64 c6.l2), (.int .u64 c6.l3), (.int .u64 c6.l4)] rfl rfl rfl Tryd.underlying30 rfl sz30 rfl) ?_
  refine T_call 31 hn hM rfl rfl rfl (v := (.tuple #[c7.v, (.bool ((rootV ((((toF 4) * (inv (toF 5))) * ((toF 4) * (inv (toF 5)))) - (toF 1)) ((((0 - (toF 121665)) * (inv (toF 121666))) * (((toF 4) * (inv (toF 5))) * ((toF 4) * (inv (toF 5))))) + (toF 1))).2))])) (g_callM (fun w hM => pc7 w _ (hM.get 1 rfl)) rfl rfl rfl Tryd.func39 nm39 bd39) (fun w hM => ?_)
  refine T_val 28 hn hM rfl rfl rfl (v := (.tuple #[c7.v, (.bool ((rootV ((((toF 4) * (inv (toF 5))) * ((toF 4) * (inv (toF 5)))) - (toF 1)) ((((0 - (toF 121665)) * (inv (toF 121666))) * (((toF 4) * (inv (toF 5))) * ((toF 4) * (inv (toF 5))))) + (toF 1))).2))])) (g_move rfl rfl) ?_
  refine T_val 32 hn hM rfl rfl rfl (v := c7.v) (g_extract rfl rfl rfl) ?_
  refine T_val 33 hn hM rfl rfl rfl (v := (.bool ((rootV ((((toF 4) * (inv (toF 5))) * ((toF 4) * (inv (toF 5)))) - (toF 1)) ((((0 - (toF 121665)) * (inv (toF 121666))) * (((toF 4) * (inv (toF 5))) * ((toF 4) * (inv (toF 5))))) + (toF 1))).2))) (g_extract rfl rfl rfl) ?_
  refine T_alloc 3 hn hM rfl rfl rfl rfl Tryd.zeroValue30 #[(.int .u64 0), (.int .u64 0), (.int .u64 0), (.int .u64 0), (.int .u64 0)] rfl (fun b2 w hM => ?_)
  refine T_store 0 hn hM rfl rfl rfl rfl rfl rfl rfl (c' := #[(.int .u64 c7.l0), (.int .u64 c7.l1), (.int .u64 c7.l2), (.int .u64 c7.l3), (.int .u64 c7.l4)]) (sets_row sz30 rfl rfl rfl) (fun w hM => ?_)
  replace hM : Mem _ _ w [⟨b2, #[(.int .u64 c7.l0), (.int .u64 c7.l1), (.int .u64 c7.l2), (.int .u64 c7.l3), (.int .u64 c7.l4)], 30, true⟩, ⟨b1, #[(.int .u64 c6.l0), (.int .u64 c6.l1), (.int .u64 c6.l2), (.int .u64 c6.l3), (.int .u64 c6.l4)], 30, true⟩, ⟨b0, #[(.int .u64 c3.l0), (.int .u64 c3.l1), (.int .u64 c3.l2), (.int .u64 c3.l3), (.int .u64 c3.l4), (.int .u64 c4.l0), (.int .u64 c4.l1), (.int .u64 c4.l2), (.int .u64 c4.l3), (.int .u64 c4.l4), (.int .u64 0), (.int .u64 0), (.int .u64 0), (.int .u64 0), (.int .u64 0), (.int .u64 0), (.int .u64 0), (.int .u64 0), (.int .u64 0), (.int .u64 0), (.int .u64 0), (.int .u64 0), (.int .u64 0), (.int .u64 0), (.int .u64 0), (.int .u64 0), (.int .u64 0), (.int .u64 0), (.int .u64 0), (.int .u64 0)], 55, true⟩] := hM
  refine T_val 4 hn hM rfl rfl rfl (v := (.bool ((rootV ((((toF 4) * (inv (toF 5))) * ((toF 4) * (inv (toF 5)))) - (toF 1)) ((((0 - (toF 121665)) * (inv (toF 121666))) * (((toF 4) * (inv (toF 5))) * ((toF 4) * (inv (toF 5))))) + (toF 1))).2))) (g_assign rfl rfl) ?_
  refine T_nil ?_
  refine wp_seq ?_
  refine wp_region_lit ?_
  refine T_val 34 hn hM rfl rfl rfl (v := (.pointer (some ⟨b0, 0, none⟩))) (g_move rfl rfl) ?_
  refine T_val 35 hn hM rfl rfl rfl (v := (.agg #[(.int .u64 c7.l0), (.int .u64 c7.l1), (.int .u64 c7.l2), (.int .u64 c7.l3), (.int .u64 c7.l4)])) (g_loadRow 0 [(.int .u64 c7.l0), (.int .u64 c7.l1), (.int .u64 c7.l2), (.int .u64 c7.l3), (.int .u64 c7.l4)] rfl rfl rfl Tryd.underlying30 rfl sz30 rfl) ?_
  refine T_val 36 hn hM rfl rfl rfl (v := (.agg #[(.int .u64 c6.l0), (.int .u64 c6.l1), (.int .u64 c6.l2), (.int .u64 c6.l3), (.int .u64 c6.l4)])) (g_loadRow 1 [(.int .u64 c6.l0), (.int .u64 c6.l1), (.int .u64 c6.l2), (.int .u64 c6.l3), (.int .u64 c6.l4)] rfl rfl rfl Tryd.underlying30 rfl sz30 rfl) ?_
  refine T_call 37 hn hM rfl rfl rfl (v := (.agg #[(.int .u64 c7.l0), (.int .u64 c7.l1), (.int .u64 c7.l2), (.int .u64 c7.l3), (.int .u64 c7.l4), (.int .u64 c6.l0), (.int .u64 c6.l1), (.int .u64 c6.l2), (.int .u64 c6.l3), (.int .u64 c6.l4), (.int .u64 1), (.int .u64 0), (.int .u64 0), (.int .u64 0), (.int .u64 0), (.int .u64 c8.l0), (.int .u64 c8.l1), (.int .u64 c8.l2), (.int .u64 c8.l3), (.int .u64 c8.l4)])) (g_call pc8 rfl rfl rfl Tryd.func40 nm40 bd40) (fun w hM => ?_)
  refine T_val 38 hn hM rfl rfl rfl (v := (.pointer (some ⟨b0, 0, none⟩))) (g_nilCheck rfl rfl) ?_
  refine T_val 39 hn hM rfl rfl rfl (v := (.pointer (some ⟨b0, 10, none⟩))) (g_fieldAddr rfl rfl Tryd.underlying55 rfl Tryd.sizeOf49 10 rfl) ?_
  refine T_store 2 hn hM rfl rfl rfl rfl rfl rfl rfl (c' := #[(.int .u64 c3.l0), (.int .u64 c3.l1), (.int .u64 c3.l2), (.int .u64 c3.l3), (.int .u64 c3.l4), (.int .u64 c4.l0), (.int .u64 c4.l1), (.int .u64 c4.l2), (.int .u64 c4.l3), (.int .u64 c4.l4), (.int .u64 c7.l0), (.int .u64 c7.l1), (.int .u64 c7.l2), (.int .u64 c7.l3), (.int .u64 c7.l4), (.int .u64 c6.l0), (.int .u64 c6.l1), (.int .u64 c6.l2), (.int .u64 c6.l3), (.int .u64 c6.l4), (.int .u64 1), (.int .u64 0), (.int .u64 0), (.int .u64 0), (.int .u64 0), (.int .u64 c8.l0), (.int .u64 c8.l1), (.int .u64 c8.l2), (.int .u64 c8.l3), (.int .u64 c8.l4)]) (sets_row sz49 rfl rfl rfl) (fun w hM => ?_)
  replace hM : Mem _ _ w [⟨b2, #[(.int .u64 c7.l0), (.int .u64 c7.l1), (.int .u64 c7.l2), (.int .u64 c7.l3), (.int .u64 c7.l4)], 30, true⟩, ⟨b1, #[(.int .u64 c6.l0), (.int .u64 c6.l1), (.int .u64 c6.l2), (.int .u64 c6.l3), (.int .u64 c6.l4)], 30, true⟩, ⟨b0, #[(.int .u64 c3.l0), (.int .u64 c3.l1), (.int .u64 c3.l2), (.int .u64 c3.l3), (.int .u64 c3.l4), (.int .u64 c4.l0), (.int .u64 c4.l1), (.int .u64 c4.l2), (.int .u64 c4.l3), (.int .u64 c4.l4), (.int .u64 c7.l0), (.int .u64 c7.l1), (.int .u64 c7.l2), (.int .u64 c7.l3), (.int .u64 c7.l4), (.int .u64 c6.l0), (.int .u64 c6.l1), (.int .u64 c6.l2), (.int .u64 c6.l3), (.int .u64 c6.l4), (.int .u64 1), (.int .u64 0), (.int .u64 0), (.int .u64 0), (.int .u64 0), (.int .u64 c8.l0), (.int .u64 c8.l1), (.int .u64 c8.l2), (.int .u64 c8.l3), (.int .u64 c8.l4)], 55, true⟩] := hM
  refine T_nil ?_
  refine wp_seq ?_
  refine wp_region_lit ?_
  refine T_val 40 hn hM rfl rfl rfl (v := (.pointer (some ⟨b0, 0, none⟩))) (g_move rfl rfl) ?_
  refine T_val 0 hn hM rfl rfl rfl (v := (.pointer (some ⟨b0, 0, none⟩))) (g_assign rfl rfl) ?_
  refine T_nil ?_
  refine wp_ret ?_
  refine leave (.inl rfl) hn hdf hM rfl Tryd.results19 (vs := [(.pointer (some ⟨b0, 0, none⟩))]) (.tmp 0 rfl .nil) ?_
  exact ⟨_, rfl, hM.fresh 2 rfl⟩

end Go.Proofs.YtbonnnakebfniaaDoor
