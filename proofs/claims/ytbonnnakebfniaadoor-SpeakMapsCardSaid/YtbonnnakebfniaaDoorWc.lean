/- curve: swap, step. -/
import Derived.Test.YtbonnnakebfniaaDoorWe
namespace Go.Proofs.YtbonnnakebfniaaDoor
open Go Go.RowKit Num Mx

abbrev pt2 (x z : El) : Array Value := #[.int .u64 x.l0, .int .u64 x.l1, .int .u64 x.l2, .int .u64 x.l3, .int .u64 x.l4, .int .u64 z.l0, .int .u64 z.l1, .int .u64 z.l2, .int .u64 z.l3, .int .u64 z.l4]


theorem sz81 : (Tryd.prog.info? 81).map (·.size) = some 10 := by kernel_rfl

set_option maxHeartbeats 1000000 in
set_option maxRecDepth 100000 in
theorem swap_W (is : Bool) {ax az bx bz : El} (w : World) {pa pb : Nat} (ha : w.heap[pa]? = some (.cells (pt2 ax az) 81 (0, 0))) (hb : w.heap[pb]? = some (.cells (pt2 bx bz) 81 (0, 0))) (hne : pa ≠ pb) :
    Calls Tryd.prog 36 #[.bool is, .pointer (some ⟨pa, 0, none⟩), .pointer (some ⟨pb, 0, none⟩)] w fun e w' => e = .returned (.tuple #[]) ∧ Wrote w w' [⟨pa, pt2 (if is then bx else ax) (if is then bz else az), 81, true⟩, ⟨pb, pt2 (if is then ax else bx) (if is then az else bz), 81, true⟩] := by
  obtain ⟨c1, hc1⟩ : ∃ c : El, c = if is then bx else ax := ⟨_, rfl⟩
  have pc1 := choose_E is bx ax
  rw [← hc1] at pc1
  obtain ⟨c2, hc2⟩ : ∃ c : El, c = if is then bz else az := ⟨_, rfl⟩
  have pc2 := choose_E is bz az
  rw [← hc2] at pc2
  obtain ⟨c3, hc3⟩ : ∃ c : El, c = if is then ax else bx := ⟨_, rfl⟩
  have pc3 := choose_E is ax bx
  rw [← hc3] at pc3
  obtain ⟨c4, hc4⟩ : ∃ c : El, c = if is then az else bz := ⟨_, rfl⟩
  have pc4 := choose_E is az bz
  rw [← hc4] at pc4
  rw [← hc1, ← hc2, ← hc3, ← hc4]
  refine enter Tryd.func36 rfl Tryd.ntmps36 (Nat.le_of_ble_eq_true rfl) fun A hn hdf => ?_
  have hM : Mem w [pa, pb] w [⟨pa, #[(.int .u64 ax.l0), (.int .u64 ax.l1), (.int .u64 ax.l2), (.int .u64 ax.l3), (.int .u64 ax.l4), (.int .u64 az.l0), (.int .u64 az.l1), (.int .u64 az.l2), (.int .u64 az.l3), (.int .u64 az.l4)], 81, true⟩, ⟨pb, #[(.int .u64 bx.l0), (.int .u64 bx.l1), (.int .u64 bx.l2), (.int .u64 bx.l3), (.int .u64 bx.l4), (.int .u64 bz.l0), (.int .u64 bz.l1), (.int .u64 bz.l2), (.int .u64 bz.l3), (.int .u64 bz.l4)], 81, true⟩] := Mem.write2 w ha hb hne
  replace hM := hM
  refine wp_seq ?_
  refine R_any [.val, .val, .val, .val, .val, .val, .val, .val, .val, .val, .val, .val, .val, .val, .val, .val, .val, .val, .val, .val, .val, .alloc] 22 [⟨21, #[(.int .u64 0), (.int .u64 0), (.int .u64 0), (.int .u64 0), (.int .u64 0), (.int .u64 0), (.int .u64 0), (.int .u64 0), (.int .u64 0), (.int .u64 0)], #[(.int .u64 0), (.int .u64 0), (.int .u64 0), (.int .u64 0), (.int .u64 0), (.int .u64 0), (.int .u64 0), (.int .u64 0), (.int .u64 0), (.int .u64 0)], 81⟩] [(21, 6)] hn hM rfl (by kernel_rfl) (by kernel_rfl) rfl rfl rfl ?_
  refine E_val 8 rfl rfl rfl rfl (v := (.bool is)) (g_move rfl rfl) ?_
  refine E_val 9 rfl rfl rfl rfl (v := (.pointer (some ⟨pb, 0, none⟩))) (g_move rfl rfl) ?_
  refine E_val 10 rfl rfl rfl rfl (v := (.pointer (some ⟨pb, 0, none⟩))) (g_nilCheck rfl rfl) ?_
  refine E_val 11 rfl rfl rfl rfl (v := (.pointer (some ⟨pb, 0, none⟩))) (g_fieldAddr rfl rfl Tryd.underlying81 rfl Tryd.sizeOf30 0 rfl) ?_
  refine E_val 12 rfl rfl rfl rfl (v := (.agg #[(.int .u64 bx.l0), (.int .u64 bx.l1), (.int .u64 bx.l2), (.int .u64 bx.l3), (.int .u64 bx.l4)])) (g_loadRow 1 [(.int .u64 bx.l0), (.int .u64 bx.l1), (.int .u64 bx.l2), (.int .u64 bx.l3), (.int .u64 bx.l4)] rfl rfl rfl Tryd.underlying30 rfl sz30 rfl) ?_
  refine E_val 13 rfl rfl rfl rfl (v := (.pointer (some ⟨pa, 0, none⟩))) (g_move rfl rfl) ?_
  refine E_val 14 rfl rfl rfl rfl (v := (.pointer (some ⟨pa, 0, none⟩))) (g_nilCheck rfl rfl) ?_
  refine E_val 15 rfl rfl rfl rfl (v := (.pointer (some ⟨pa, 0, none⟩))) (g_fieldAddr rfl rfl Tryd.underlying81 rfl Tryd.sizeOf30 0 rfl) ?_
  refine E_val 16 rfl rfl rfl rfl (v := (.agg #[(.int .u64 ax.l0), (.int .u64 ax.l1), (.int .u64 ax.l2), (.int .u64 ax.l3), (.int .u64 ax.l4)])) (g_loadRow 0 [(.int .u64 ax.l0), (.int .u64 ax.l1), (.int .u64 ax.l2), (.int .u64 ax.l3), (.int .u64 ax.l4)] rfl rfl rfl Tryd.underlying30 rfl sz30 rfl) ?_
  refine E_call 17 rfl rfl rfl rfl (v := c1.v) (g_call pc1 rfl rfl rfl Tryd.func55 nm55 bd55) ?_
  refine E_val 18 rfl rfl rfl rfl (v := (.bool is)) (g_move rfl rfl) ?_
  refine E_val 19 rfl rfl rfl rfl (v := (.pointer (some ⟨pb, 0, none⟩))) (g_move rfl rfl) ?_
  refine E_val 20 rfl rfl rfl rfl (v := (.pointer (some ⟨pb, 0, none⟩))) (g_nilCheck rfl rfl) ?_
  refine E_val 21 rfl rfl rfl rfl (v := (.pointer (some ⟨pb, 5, none⟩))) (g_fieldAddr rfl rfl Tryd.underlying81 rfl Tryd.sizeOf30 5 rfl) ?_
  refine E_val 22 rfl rfl rfl rfl (v := (.agg #[(.int .u64 bz.l0), (.int .u64 bz.l1), (.int .u64 bz.l2), (.int .u64 bz.l3), (.int .u64 bz.l4)])) (g_loadRow 1 [(.int .u64 bz.l0), (.int .u64 bz.l1), (.int .u64 bz.l2), (.int .u64 bz.l3), (.int .u64 bz.l4)] rfl rfl rfl Tryd.underlying30 rfl sz30 rfl) ?_
  refine E_val 23 rfl rfl rfl rfl (v := (.pointer (some ⟨pa, 0, none⟩))) (g_move rfl rfl) ?_
  refine E_val 24 rfl rfl rfl rfl (v := (.pointer (some ⟨pa, 0, none⟩))) (g_nilCheck rfl rfl) ?_
  refine E_val 25 rfl rfl rfl rfl (v := (.pointer (some ⟨pa, 5, none⟩))) (g_fieldAddr rfl rfl Tryd.underlying81 rfl Tryd.sizeOf30 5 rfl) ?_
  refine E_val 26 rfl rfl rfl rfl (v := (.agg #[(.int .u64 az.l0), (.int .u64 az.l1), (.int .u64 az.l2), (.int .u64 az.l3), (.int .u64 az.l4)])) (g_loadRow 0 [(.int .u64 az.l0), (.int .u64 az.l1), (.int .u64 az.l2), (.int .u64 az.l3), (.int .u64 az.l4)] rfl rfl rfl Tryd.underlying30 rfl sz30 rfl) ?_
  refine E_call 27 rfl rfl rfl rfl (v := c2.v) (g_call pc2 rfl rfl rfl Tryd.func55 nm55 bd55) ?_
  refine E_val 28 rfl rfl rfl rfl (v := (.agg #[(.int .u64 c1.l0), (.int .u64 c1.l1), (.int .u64 c1.l2), (.int .u64 c1.l3), (.int .u64 c1.l4), (.int .u64 c2.l0), (.int .u64 c2.l1), (.int .u64 c2.l2), (.int .u64 c2.l3), (.int .u64 c2.l4)])) (g_build rfl (by kernel_rfl)) ?_
  refine E_skip rfl ?_
  refine E_nil ?_
  refine ⟨?_, fun β1 w hM => ?_⟩
  · skip
    refine M_val rfl ?_
    refine M_val rfl ?_
    refine M_val rfl ?_
    refine M_val rfl ?_
    refine M_val rfl ?_
    refine M_val rfl ?_
    refine M_val rfl ?_
    refine M_val rfl ?_
    refine M_val rfl ?_
    refine M_val rfl ?_
    refine M_val rfl ?_
    refine M_val rfl ?_
    refine M_val rfl ?_
    refine M_val rfl ?_
    refine M_val rfl ?_
    refine M_val rfl ?_
    refine M_val rfl ?_
    refine M_val rfl ?_
    refine M_val rfl ?_
    refine M_val rfl ?_
    refine M_val rfl ?_
    refine M_alloc rfl rfl (runs_alloc rfl Tryd.zeroValue81 rfl) ?_
    exact M_nil
  replace hM : Mem _ _ w [⟨(β1 21), #[(.int .u64 0), (.int .u64 0), (.int .u64 0), (.int .u64 0), (.int .u64 0), (.int .u64 0), (.int .u64 0), (.int .u64 0), (.int .u64 0), (.int .u64 0)], 81, true⟩, ⟨pa, #[(.int .u64 ax.l0), (.int .u64 ax.l1), (.int .u64 ax.l2), (.int .u64 ax.l3), (.int .u64 ax.l4), (.int .u64 az.l0), (.int .u64 az.l1), (.int .u64 az.l2), (.int .u64 az.l3), (.int .u64 az.l4)], 81, true⟩, ⟨pb, #[(.int .u64 bx.l0), (.int .u64 bx.l1), (.int .u64 bx.l2), (.int .u64 bx.l3), (.int .u64 bx.l4), (.int .u64 bz.l0), (.int .u64 bz.l1), (.int .u64 bz.l2), (.int .u64 bz.l3), (.int .u64 bz.l4)], 81, true⟩] := hM
  show wpList _ _ _ (_ :: _) (putAll _ ((6, _) :: _)) _
  refine T_store 0 hn hM rfl rfl rfl rfl rfl rfl rfl (c' := #[(.int .u64 c1.l0), (.int .u64 c1.l1), (.int .u64 c1.l2), (.int .u64 c1.l3), (.int .u64 c1.l4), (.int .u64 c2.l0), (.int .u64 c2.l1), (.int .u64 c2.l2), (.int .u64 c2.l3), (.int .u64 c2.l4)]) (sets_row sz81 rfl rfl rfl) (fun w hM => ?_)
  replace hM : Mem _ _ w [⟨(β1 21), #[(.int .u64 c1.l0), (.int .u64 c1.l1), (.int .u64 c1.l2), (.int .u64 c1.l3), (.int .u64 c1.l4), (.int .u64 c2.l0), (.int .u64 c2.l1), (.int .u64 c2.l2), (.int .u64 c2.l3), (.int .u64 c2.l4)], 81, true⟩, ⟨pa, #[(.int .u64 ax.l0), (.int .u64 ax.l1), (.int .u64 ax.l2), (.int .u64 ax.l3), (.int .u64 ax.l4), (.int .u64 az.l0), (.int .u64 az.l1), (.int .u64 az.l2), (.int .u64 az.l3), (.int .u64 az.l4)], 81, true⟩, ⟨pb, #[(.int .u64 bx.l0), (.int .u64 bx.l1), (.int .u64 bx.l2), (.int .u64 bx.l3), (.int .u64 bx.l4), (.int .u64 bz.l0), (.int .u64 bz.l1), (.int .u64 bz.l2), (.int .u64 bz.l3), (.int .u64 bz.l4)], 81, true⟩] := hM
  refine T_nil ?_
  refine wp_seq ?_
  refine R_any [.val, .val, .val, .val, .val, .val, .val, .val, .val, .val, .val, .val, .val, .val, .val, .val, .val, .val, .val, .val, .val, .alloc] 22 [⟨21, #[(.int .u64 0), (.int .u64 0), (.int .u64 0), (.int .u64 0), (.int .u64 0), (.int .u64 0), (.int .u64 0), (.int .u64 0), (.int .u64 0), (.int .u64 0)], #[(.int .u64 0), (.int .u64 0), (.int .u64 0), (.int .u64 0), (.int .u64 0), (.int .u64 0), (.int .u64 0), (.int .u64 0), (.int .u64 0), (.int .u64 0)], 81⟩] [(21, 7)] hn hM rfl (by kernel_rfl) (by kernel_rfl) rfl rfl rfl ?_
  refine E_val 29 rfl rfl rfl rfl (v := (.bool is)) (g_move rfl rfl) ?_
  refine E_val 30 rfl rfl rfl rfl (v := (.pointer (some ⟨pa, 0, none⟩))) (g_move rfl rfl) ?_
  refine E_val 31 rfl rfl rfl rfl (v := (.pointer (some ⟨pa, 0, none⟩))) (g_nilCheck rfl rfl) ?_
  refine E_val 32 rfl rfl rfl rfl (v := (.pointer (some ⟨pa, 0, none⟩))) (g_fieldAddr rfl rfl Tryd.underlying81 rfl Tryd.sizeOf30 0 rfl) ?_
  refine E_val 33 rfl rfl rfl rfl (v := (.agg #[(.int .u64 ax.l0), (.int .u64 ax.l1), (.int .u64 ax.l2), (.int .u64 ax.l3), (.int .u64 ax.l4)])) (g_loadRow 1 [(.int .u64 ax.l0), (.int .u64 ax.l1), (.int .u64 ax.l2), (.int .u64 ax.l3), (.int .u64 ax.l4)] rfl rfl rfl Tryd.underlying30 rfl sz30 rfl) ?_
  refine E_val 34 rfl rfl rfl rfl (v := (.pointer (some ⟨pb, 0, none⟩))) (g_move rfl rfl) ?_
  refine E_val 35 rfl rfl rfl rfl (v := (.pointer (some ⟨pb, 0, none⟩))) (g_nilCheck rfl rfl) ?_
  refine E_val 36 rfl rfl rfl rfl (v := (.pointer (some ⟨pb, 0, none⟩))) (g_fieldAddr rfl rfl Tryd.underlying81 rfl Tryd.sizeOf30 0 rfl) ?_
  refine E_val 37 rfl rfl rfl rfl (v := (.agg #[(.int .u64 bx.l0), (.int .u64 bx.l1), (.int .u64 bx.l2), (.int .u64 bx.l3), (.int .u64 bx.l4)])) (g_loadRow 2 [(.int .u64 bx.l0), (.int .u64 bx.l1), (.int .u64 bx.l2), (.int .u64 bx.l3), (.int .u64 bx.l4)] rfl rfl rfl Tryd.underlying30 rfl sz30 rfl) ?_
  refine E_call 38 rfl rfl rfl rfl (v := c3.v) (g_call pc3 rfl rfl rfl Tryd.func55 nm55 bd55) ?_
  refine E_val 39 rfl rfl rfl rfl (v := (.bool is)) (g_move rfl rfl) ?_
  refine E_val 40 rfl rfl rfl rfl (v := (.pointer (some ⟨pa, 0, none⟩))) (g_move rfl rfl) ?_
  refine E_val 41 rfl rfl rfl rfl (v := (.pointer (some ⟨pa, 0, none⟩))) (g_nilCheck rfl rfl) ?_
  refine E_val 42 rfl rfl rfl rfl (v := (.pointer (some ⟨pa, 5, none⟩))) (g_fieldAddr rfl rfl Tryd.underlying81 rfl Tryd.sizeOf30 5 rfl) ?_
  refine E_val 43 rfl rfl rfl rfl (v := (.agg #[(.int .u64 az.l0), (.int .u64 az.l1), (.int .u64 az.l2), (.int .u64 az.l3), (.int .u64 az.l4)])) (g_loadRow 1 [(.int .u64 az.l0), (.int .u64 az.l1), (.int .u64 az.l2), (.int .u64 az.l3), (.int .u64 az.l4)] rfl rfl rfl Tryd.underlying30 rfl sz30 rfl) ?_
  refine E_val 44 rfl rfl rfl rfl (v := (.pointer (some ⟨pb, 0, none⟩))) (g_move rfl rfl) ?_
  refine E_val 45 rfl rfl rfl rfl (v := (.pointer (some ⟨pb, 0, none⟩))) (g_nilCheck rfl rfl) ?_
  refine E_val 46 rfl rfl rfl rfl (v := (.pointer (some ⟨pb, 5, none⟩))) (g_fieldAddr rfl rfl Tryd.underlying81 rfl Tryd.sizeOf30 5 rfl) ?_
  refine E_val 47 rfl rfl rfl rfl (v := (.agg #[(.int .u64 bz.l0), (.int .u64 bz.l1), (.int .u64 bz.l2), (.int .u64 bz.l3), (.int .u64 bz.l4)])) (g_loadRow 2 [(.int .u64 bz.l0), (.int .u64 bz.l1), (.int .u64 bz.l2), (.int .u64 bz.l3), (.int .u64 bz.l4)] rfl rfl rfl Tryd.underlying30 rfl sz30 rfl) ?_
  refine E_call 48 rfl rfl rfl rfl (v := c4.v) (g_call pc4 rfl rfl rfl Tryd.func55 nm55 bd55) ?_
  refine E_val 49 rfl rfl rfl rfl (v := (.agg #[(.int .u64 c3.l0), (.int .u64 c3.l1), (.int .u64 c3.l2), (.int .u64 c3.l3), (.int .u64 c3.l4), (.int .u64 c4.l0), (.int .u64 c4.l1), (.int .u64 c4.l2), (.int .u64 c4.l3), (.int .u64 c4.l4)])) (g_build rfl (by kernel_rfl)) ?_
  refine E_skip rfl ?_
  refine E_nil ?_
  refine ⟨?_, fun β2 w hM => ?_⟩
  · skip
    refine M_val rfl ?_
    refine M_val rfl ?_
    refine M_val rfl ?_
    refine M_val rfl ?_
    refine M_val rfl ?_
    refine M_val rfl ?_
    refine M_val rfl ?_
    refine M_val rfl ?_
    refine M_val rfl ?_
    refine M_val rfl ?_
    refine M_val rfl ?_
    refine M_val rfl ?_
    refine M_val rfl ?_
    refine M_val rfl ?_
    refine M_val rfl ?_
    refine M_val rfl ?_
    refine M_val rfl ?_
    refine M_val rfl ?_
    refine M_val rfl ?_
    refine M_val rfl ?_
    refine M_val rfl ?_
    refine M_alloc rfl rfl (runs_alloc rfl Tryd.zeroValue81 rfl) ?_
    exact M_nil
  replace hM : Mem _ _ w [⟨(β2 21), #[(.int .u64 0), (.int .u64 0), (.int .u64 0), (.int .u64 0), (.int .u64 0), (.int .u64 0), (.int .u64 0), (.int .u64 0), (.int .u64 0), (.int .u64 0)], 81, true⟩, ⟨(β1 21), #[(.int .u64 c1.l0), (.int .u64 c1.l1), (.int .u64 c1.l2), (.int .u64 c1.l3), (.int .u64 c1.l4), (.int .u64 c2.l0), (.int .u64 c2.l1), (.int .u64 c2.l2), (.int .u64 c2.l3), (.int .u64 c2.l4)], 81, true⟩, ⟨pa, #[(.int .u64 ax.l0), (.int .u64 ax.l1), (.int .u64 ax.l2), (.int .u64 ax.l3), (.int .u64 ax.l4), (.int .u64 az.l0), (.int .u64 az.l1), (.int .u64 az.l2), (.int .u64 az.l3), (.int .u64 az.l4)], 81, true⟩, ⟨pb, #[(.int .u64 bx.l0), (.int .u64 bx.l1), (.int .u64 bx.l2), (.int .u64 bx.l3), (.int .u64 bx.l4), (.int .u64 bz.l0), (.int .u64 bz.l1), (.int .u64 bz.l2), (.int .u64 bz.l3), (.int .u64 bz.l4)], 81, true⟩] := hM
  show wpList _ _ _ (_ :: _) (putAll _ ((7, _) :: _)) _
  refine T_store 0 hn hM rfl rfl rfl rfl rfl rfl rfl (c' := #[(.int .u64 c3.l0), (.int .u64 c3.l1), (.int .u64 c3.l2), (.int .u64 c3.l3), (.int .u64 c3.l4), (.int .u64 c4.l0), (.int .u64 c4.l1), (.int .u64 c4.l2), (.int .u64 c4.l3), (.int .u64 c4.l4)]) (sets_row sz81 rfl rfl rfl) (fun w hM => ?_)
  replace hM : Mem _ _ w [⟨(β2 21), #[(.int .u64 c3.l0), (.int .u64 c3.l1), (.int .u64 c3.l2), (.int .u64 c3.l3), (.int .u64 c3.l4), (.int .u64 c4.l0), (.int .u64 c4.l1), (.int .u64 c4.l2), (.int .u64 c4.l3), (.int .u64 c4.l4)], 81, true⟩, ⟨(β1 21), #[(.int .u64 c1.l0), (.int .u64 c1.l1), (.int .u64 c1.l2), (.int .u64 c1.l3), (.int .u64 c1.l4), (.int .u64 c2.l0), (.int .u64 c2.l1), (.int .u64 c2.l2), (.int .u64 c2.l3), (.int .u64 c2.l4)], 81, true⟩, ⟨pa, #[(.int .u64 ax.l0), (.int .u64 ax.l1), (.int .u64 ax.l2), (.int .u64 ax.l3), (.int .u64 ax.l4), (.int .u64 az.l0), (.int .u64 az.l1), (.int .u64 az.l2), (.int .u64 az.l3), (.int .u64 az.l4)], 81, true⟩, ⟨pb, #[(.int .u64 bx.l0), (.int .u64 bx.l1), (.int .u64 bx.l2), (.int .u64 bx.l3), (.int .u64 bx.l4), (.int .u64 bz.l0), (.int .u64 bz.l1), (.int .u64 bz.l2), (.int .u64 bz.l3), (.int .u64 bz.l4)], 81, true⟩] := hM
  refine T_nil ?_
  refine R_put [.val, .val, .val, .val, .val, .put] 6 [] [] 5 2 (x0 := ⟨pa, #[(.int .u64 ax.l0), (.int .u64 ax.l1), (.int .u64 ax.l2), (.int .u64 ax.l3), (.int .u64 ax.l4), (.int .u64 az.l0), (.int .u64 az.l1), (.int .u64 az.l2), (.int .u64 az.l3), (.int .u64 az.l4)], 81, true⟩) #[(.int .u64 c1.l0), (.int .u64 c1.l1), (.int .u64 c1.l2), (.int .u64 c1.l3), (.int .u64 c1.l4), (.int .u64 c2.l0), (.int .u64 c2.l1), (.int .u64 c2.l2), (.int .u64 c2.l3), (.int .u64 c2.l4)] hn hM rfl (by kernel_rfl) (by kernel_rfl) rfl rfl rfl (by decide) rfl rfl rfl ?_
  refine E_val 50 rfl rfl rfl rfl (v := (.pointer (some ⟨pa, 0, none⟩))) (g_move rfl rfl) ?_
  refine E_val 51 rfl rfl rfl rfl (v := (.pointer (some ⟨pb, 0, none⟩))) (g_move rfl rfl) ?_
  refine E_val 52 rfl rfl rfl rfl (v := (.agg #[(.int .u64 c1.l0), (.int .u64 c1.l1), (.int .u64 c1.l2), (.int .u64 c1.l3), (.int .u64 c1.l4), (.int .u64 c2.l0), (.int .u64 c2.l1), (.int .u64 c2.l2), (.int .u64 c2.l3), (.int .u64 c2.l4)])) (g_loadRow 1 [(.int .u64 c1.l0), (.int .u64 c1.l1), (.int .u64 c1.l2), (.int .u64 c1.l3), (.int .u64 c1.l4), (.int .u64 c2.l0), (.int .u64 c2.l1), (.int .u64 c2.l2), (.int .u64 c2.l3), (.int .u64 c2.l4)] rfl rfl rfl Tryd.underlying81 rfl sz81 rfl) ?_
  refine E_val 53 rfl rfl rfl rfl (v := (.agg #[(.int .u64 c3.l0), (.int .u64 c3.l1), (.int .u64 c3.l2), (.int .u64 c3.l3), (.int .u64 c3.l4), (.int .u64 c4.l0), (.int .u64 c4.l1), (.int .u64 c4.l2), (.int .u64 c4.l3), (.int .u64 c4.l4)])) (g_loadRow 0 [(.int .u64 c3.l0), (.int .u64 c3.l1), (.int .u64 c3.l2), (.int .u64 c3.l3), (.int .u64 c3.l4), (.int .u64 c4.l0), (.int .u64 c4.l1), (.int .u64 c4.l2), (.int .u64 c4.l3), (.int .u64 c4.l4)] rfl rfl rfl Tryd.underlying81 rfl sz81 rfl) ?_
  refine E_val 54 rfl rfl rfl rfl (v := (.pointer (some ⟨pa, 0, none⟩))) (g_nilCheck rfl rfl) ?_
  refine E_skip rfl ?_
  refine E_nil ?_
  refine ⟨?_, fun β3 w hM => ?_⟩
  · skip
    refine M_val rfl ?_
    refine M_val rfl ?_
    refine M_val rfl ?_
    refine M_val rfl ?_
    refine M_val rfl ?_
    refine M_put rfl rfl (runs_store rfl rfl rfl (sets_row sz81 rfl rfl rfl)) ?_
    exact M_nil
  replace hM : Mem _ _ w [⟨(β2 21), #[(.int .u64 c3.l0), (.int .u64 c3.l1), (.int .u64 c3.l2), (.int .u64 c3.l3), (.int .u64 c3.l4), (.int .u64 c4.l0), (.int .u64 c4.l1), (.int .u64 c4.l2), (.int .u64 c4.l3), (.int .u64 c4.l4)], 81, true⟩, ⟨(β1 21), #[(.int .u64 c1.l0), (.int .u64 c1.l1), (.int .u64 c1.l2), (.int .u64 c1.l3), (.int .u64 c1.l4), (.int .u64 c2.l0), (.int .u64 c2.l1), (.int .u64 c2.l2), (.int .u64 c2.l3), (.int .u64 c2.l4)], 81, true⟩, ⟨pa, #[(.int .u64 c1.l0), (.int .u64 c1.l1), (.int .u64 c1.l2), (.int .u64 c1.l3), (.int .u64 c1.l4), (.int .u64 c2.l0), (.int .u64 c2.l1), (.int .u64 c2.l2), (.int .u64 c2.l3), (.int .u64 c2.l4)], 81, true⟩, ⟨pb, #[(.int .u64 bx.l0), (.int .u64 bx.l1), (.int .u64 bx.l2), (.int .u64 bx.l3), (.int .u64 bx.l4), (.int .u64 bz.l0), (.int .u64 bz.l1), (.int .u64 bz.l2), (.int .u64 bz.l3), (.int .u64 bz.l4)], 81, true⟩] := hM
  show wpList _ _ _ (_ :: _) (putAll _ (_)) _
  refine T_val 55 hn hM rfl rfl rfl (v := (.pointer (some ⟨pb, 0, none⟩))) (g_nilCheck rfl rfl) ?_
  refine T_store 3 hn hM rfl rfl rfl rfl rfl rfl rfl (c' := #[(.int .u64 c3.l0), (.int .u64 c3.l1), (.int .u64 c3.l2), (.int .u64 c3.l3), (.int .u64 c3.l4), (.int .u64 c4.l0), (.int .u64 c4.l1), (.int .u64 c4.l2), (.int .u64 c4.l3), (.int .u64 c4.l4)]) (sets_row sz81 rfl rfl rfl) (fun w hM => ?_)
  replace hM : Mem _ _ w [⟨(β2 21), #[(.int .u64 c3.l0), (.int .u64 c3.l1), (.int .u64 c3.l2), (.int .u64 c3.l3), (.int .u64 c3.l4), (.int .u64 c4.l0), (.int .u64 c4.l1), (.int .u64 c4.l2), (.int .u64 c4.l3), (.int .u64 c4.l4)], 81, true⟩, ⟨(β1 21), #[(.int .u64 c1.l0), (.int .u64 c1.l1), (.int .u64 c1.l2), (.int .u64 c1.l3), (.int .u64 c1.l4), (.int .u64 c2.l0), (.int .u64 c2.l1), (.int .u64 c2.l2), (.int .u64 c2.l3), (.int .u64 c2.l4)], 81, true⟩, ⟨pa, #[(.int .u64 c1.l0), (.int .u64 c1.l1), (.int .u64 c1.l2), (.int .u64 c1.l3), (.int .u64 c1.l4), (.int .u64 c2.l0), (.int .u64 c2.l1), (.int .u64 c2.l2), (.int .u64 c2.l3), (.int .u64 c2.l4)], 81, true⟩, ⟨pb, #[(.int .u64 c3.l0), (.int .u64 c3.l1), (.int .u64 c3.l2), (.int .u64 c3.l3), (.int .u64 c3.l4), (.int .u64 c4.l0), (.int .u64 c4.l1), (.int .u64 c4.l2), (.int .u64 c4.l3), (.int .u64 c4.l4)], 81, true⟩] := hM
  refine T_end ?_
  refine leave (.inr rfl) hn hdf hM rfl Tryd.results36 (vs := []) .nil ?_
  exact ⟨rfl, hM.wroteS [⟨pa, #[(.int .u64 c1.l0), (.int .u64 c1.l1), (.int .u64 c1.l2), (.int .u64 c1.l3), (.int .u64 c1.l4), (.int .u64 c2.l0), (.int .u64 c2.l1), (.int .u64 c2.l2), (.int .u64 c2.l3), (.int .u64 c2.l4)], 81, true⟩, ⟨pb, #[(.int .u64 c3.l0), (.int .u64 c3.l1), (.int .u64 c3.l2), (.int .u64 c3.l3), (.int .u64 c3.l4), (.int .u64 c4.l0), (.int .u64 c4.l1), (.int .u64 c4.l2), (.int .u64 c4.l3), (.int .u64 c4.l4)], 81, true⟩] ((.cons _ (.cons _ (List.Sublist.refl _)))) rfl⟩


set_option maxHeartbeats 1000000 in
set_option maxRecDepth 100000 in
theorem step_W {x ax az bx bz : El} {mx max maz mbx mbz : F} (hx : IsL x mx) (hax : IsL ax max) (haz : IsL az maz) (hbx : IsL bx mbx) (hbz : IsL bz mbz) : ∃ cx cz dx dz : El, IsL cx (((max + maz) * (max + maz)) * ((max - maz) * (max - maz))) ∧ IsL cz ((((max + maz) * (max + maz)) - ((max - maz) * (max - maz))) * (((max + maz) * (max + maz)) + ((toF 121665) * (((max + maz) * (max + maz)) - ((max - maz) * (max - maz)))))) ∧ IsL dx ((((mbx - mbz) * (max + maz)) + ((mbx + mbz) * (max - maz))) * (((mbx - mbz) * (max + maz)) + ((mbx + mbz) * (max - maz)))) ∧ IsL dz (mx * ((((mbx - mbz) * (max + maz)) - ((mbx + mbz) * (max - maz))) * (((mbx - mbz) * (max + maz)) - ((mbx + mbz) * (max - maz))))) ∧
    ∀ (w : World) {pa pb : Nat} (_ha : w.heap[pa]? = some (.cells (pt2 ax az) 81 (0, 0))) (_hb : w.heap[pb]? = some (.cells (pt2 bx bz) 81 (0, 0))) (_hne : pa ≠ pb), Calls Tryd.prog 37 #[x.v, .pointer (some ⟨pa, 0, none⟩), .pointer (some ⟨pb, 0, none⟩)] w fun e w' => e = .returned (.tuple #[]) ∧ Wrote w w' [⟨pa, pt2 cx cz, 81, true⟩, ⟨pb, pt2 dx dz, 81, true⟩] := by
  obtain ⟨c1, hc1, pc1⟩ := add_E hax haz
  obtain ⟨c2, hc2, pc2⟩ := sub_E hax haz
  obtain ⟨c3, hc3, pc3⟩ := sq_E hc1
  obtain ⟨c4, hc4, pc4⟩ := sq_E hc2
  obtain ⟨c5, hc5, pc5⟩ := sub_E hc3 hc4
  obtain ⟨c6, hc6, pc6⟩ := sub_E hbx hbz
  obtain ⟨c7, hc7, pc7⟩ := mul_E hc6 hc1
  obtain ⟨c8, hc8, pc8⟩ := add_E hbx hbz
  obtain ⟨c9, hc9, pc9⟩ := mul_E hc8 hc2
  obtain ⟨c10, hc10, pc10⟩ := add_E hc7 hc9
  obtain ⟨c11, hc11, pc11⟩ := sq_E hc10
  obtain ⟨c12, hc12, pc12⟩ := sub_E hc7 hc9
  obtain ⟨c13, hc13, pc13⟩ := sq_E hc12
  obtain ⟨c14, hc14, pc14⟩ := mul_E hx hc13
  obtain ⟨c15, hc15, pc15⟩ := mul_E hc3 hc4
  obtain ⟨c16, hc16, pc16⟩ := mul_E (small_E 121665 (by decide)).1 hc5
  obtain ⟨c17, hc17, pc17⟩ := add_E hc3 hc16
  obtain ⟨c18, hc18, pc18⟩ := mul_E hc5 hc17
  refine ⟨c15, c18, c11, c14, hc15, hc18, hc11, hc14, fun w pa pb ha hb hne => ?_⟩
  refine enter Tryd.func37 rfl Tryd.ntmps37 (Nat.le_of_ble_eq_true rfl) fun A hn hdf => ?_
  have hM : Mem w [pa, pb] w [⟨pa, #[(.int .u64 ax.l0), (.int .u64 ax.l1), (.int .u64 ax.l2), (.int .u64 ax.l3), (.int .u64 ax.l4), (.int .u64 az.l0), (.int .u64 az.l1), (.int .u64 az.l2), (.int .u64 az.l3), (.int .u64 az.l4)], 81, true⟩, ⟨pb, #[(.int .u64 bx.l0), (.int .u64 bx.l1), (.int .u64 bx.l2), (.int .u64 bx.l3), (.int .u64 bx.l4), (.int .u64 bz.l0), (.int .u64 bz.l1), (.int .u64 bz.l2), (.int .u64 bz.l3), (.int .u64 bz.l4)], 81, true⟩] := Mem.write2 w ha hb hne
  replace hM := hM
  refine wp_seq ?_
  refine wp_region_lit ?_
  refine T_box 3 hn hM rfl rfl rfl rfl rfl #[(.int .u64 x.l0), (.int .u64 x.l1), (.int .u64 x.l2), (.int .u64 x.l3), (.int .u64 x.l4)] rfl (fun b0 w hM => ?_)
  refine T_nil ?_
  refine wp_seq ?_
  refine R_any [.val, .val, .val, .val, .val, .val, .val, .val, .val, .val, .val, .val, .val, .val, .val, .val, .val, .val, .alloc, .alloc] 20 [⟨18, #[(.int .u64 0), (.int .u64 0), (.int .u64 0), (.int .u64 0), (.int .u64 0)], #[(.int .u64 0), (.int .u64 0), (.int .u64 0), (.int .u64 0), (.int .u64 0)], 30⟩, ⟨19, #[(.int .u64 0), (.int .u64 0), (.int .u64 0), (.int .u64 0), (.int .u64 0)], #[(.int .u64 0), (.int .u64 0), (.int .u64 0), (.int .u64 0), (.int .u64 0)], 30⟩] [(18, 6), (19, 7)] hn hM rfl (by kernel_rfl) (by kernel_rfl) rfl rfl rfl ?_
  refine E_val 13 rfl rfl rfl rfl (v := (.pointer (some ⟨pa, 0, none⟩))) (g_move rfl rfl) ?_
  refine E_val 14 rfl rfl rfl rfl (v := (.pointer (some ⟨pa, 0, none⟩))) (g_nilCheck rfl rfl) ?_
  refine E_val 15 rfl rfl rfl rfl (v := (.pointer (some ⟨pa, 0, none⟩))) (g_fieldAddr rfl rfl Tryd.underlying81 rfl Tryd.sizeOf30 0 rfl) ?_
  refine E_val 16 rfl rfl rfl rfl (v := (.agg #[(.int .u64 ax.l0), (.int .u64 ax.l1), (.int .u64 ax.l2), (.int .u64 ax.l3), (.int .u64 ax.l4)])) (g_loadRow 1 [(.int .u64 ax.l0), (.int .u64 ax.l1), (.int .u64 ax.l2), (.int .u64 ax.l3), (.int .u64 ax.l4)] rfl rfl rfl Tryd.underlying30 rfl sz30 rfl) ?_
  refine E_val 17 rfl rfl rfl rfl (v := (.pointer (some ⟨pa, 0, none⟩))) (g_move rfl rfl) ?_
  refine E_val 18 rfl rfl rfl rfl (v := (.pointer (some ⟨pa, 0, none⟩))) (g_nilCheck rfl rfl) ?_
  refine E_val 19 rfl rfl rfl rfl (v := (.pointer (some ⟨pa, 5, none⟩))) (g_fieldAddr rfl rfl Tryd.underlying81 rfl Tryd.sizeOf30 5 rfl) ?_
  refine E_val 20 rfl rfl rfl rfl (v := (.agg #[(.int .u64 az.l0), (.int .u64 az.l1), (.int .u64 az.l2), (.int .u64 az.l3), (.int .u64 az.l4)])) (g_loadRow 1 [(.int .u64 az.l0), (.int .u64 az.l1), (.int .u64 az.l2), (.int .u64 az.l3), (.int .u64 az.l4)] rfl rfl rfl Tryd.underlying30 rfl sz30 rfl) ?_
  refine E_call 21 rfl rfl rfl rfl (v := c1.v) (g_call pc1 rfl rfl rfl Tryd.func9 nm9 bd9) ?_
  refine E_val 22 rfl rfl rfl rfl (v := (.pointer (some ⟨pa, 0, none⟩))) (g_move rfl rfl) ?_
  refine E_val 23 rfl rfl rfl rfl (v := (.pointer (some ⟨pa, 0, none⟩))) (g_nilCheck rfl rfl) ?_
  refine E_val 24 rfl rfl rfl rfl (v := (.pointer (some ⟨pa, 0, none⟩))) (g_fieldAddr rfl rfl Tryd.underlying81 rfl Tryd.sizeOf30 0 rfl) ?_
  refine E_val 25 rfl rfl rfl rfl (v := (.agg #[(.int .u64 ax.l0), (.int .u64 ax.l1), (.int .u64 ax.l2), (.int .u64 ax.l3), (.int .u64 ax.l4)])) (g_loadRow 1 [(.int .u64 ax.l0), (.int .u64 ax.l1), (.int .u64 ax.l2), (.int .u64 ax.l3), (.int .u64 ax.l4)] rfl rfl rfl Tryd.underlying30 rfl sz30 rfl) ?_
  refine E_val 26 rfl rfl rfl rfl (v := (.pointer (some ⟨pa, 0, none⟩))) (g_move rfl rfl) ?_
  refine E_val 27 rfl rfl rfl rfl (v := (.pointer (some ⟨pa, 0, none⟩))) (g_nilCheck rfl rfl) ?_
  refine E_val 28 rfl rfl rfl rfl (v := (.pointer (some ⟨pa, 5, none⟩))) (g_fieldAddr rfl rfl Tryd.underlying81 rfl Tryd.sizeOf30 5 rfl) ?_
  refine E_val 29 rfl rfl rfl rfl (v := (.agg #[(.int .u64 az.l0), (.int .u64 az.l1), (.int .u64 az.l2), (.int .u64 az.l3), (.int .u64 az.l4)])) (g_loadRow 1 [(.int .u64 az.l0), (.int .u64 az.l1), (.int .u64 az.l2), (.int .u64 az.l3), (.int .u64 az.l4)] rfl rfl rfl Tryd.underlying30 rfl sz30 rfl) ?_
  refine E_call 30 rfl rfl rfl rfl (v := c2.v) (g_call pc2 rfl rfl rfl Tryd.func11 nm11 bd11) ?_
  refine E_skip rfl ?_
  refine E_skip rfl ?_
  refine E_nil ?_
  refine ⟨?_, fun β1 w hM => ?_⟩
  · skip
    refine M_val rfl ?_
    refine M_val rfl ?_
    refine M_val rfl ?_
    refine M_val rfl ?_
    refine M_val rfl ?_
    refine M_val rfl ?_
    refine M_val rfl ?_
    refine M_val rfl ?_
    refine M_val rfl ?_
    refine M_val rfl ?_
    refine M_val rfl ?_
    refine M_val rfl ?_
    refine M_val rfl ?_
    refine M_val rfl ?_
    refine M_val rfl ?_
    refine M_val rfl ?_
    refine M_val rfl ?_
    refine M_val rfl ?_
    refine M_alloc rfl rfl (runs_alloc rfl Tryd.zeroValue30 rfl) ?_
    refine M_alloc rfl rfl (runs_alloc rfl Tryd.zeroValue30 rfl) ?_
    exact M_nil
  replace hM : Mem _ _ w [⟨(β1 18), #[(.int .u64 0), (.int .u64 0), (.int .u64 0), (.int .u64 0), (.int .u64 0)], 30, true⟩, ⟨(β1 19), #[(.int .u64 0), (.int .u64 0), (.int .u64 0), (.int .u64 0), (.int .u64 0)], 30, true⟩, ⟨b0, #[(.int .u64 x.l0), (.int .u64 x.l1), (.int .u64 x.l2), (.int .u64 x.l3), (.int .u64 x.l4)], 30, true⟩, ⟨pa, #[(.int .u64 ax.l0), (.int .u64 ax.l1), (.int .u64 ax.l2), (.int .u64 ax.l3), (.int .u64 ax.l4), (.int .u64 az.l0), (.int .u64 az.l1), (.int .u64 az.l2), (.int .u64 az.l3), (.int .u64 az.l4)], 81, true⟩, ⟨pb, #[(.int .u64 bx.l0), (.int .u64 bx.l1), (.int .u64 bx.l2), (.int .u64 bx.l3), (.int .u64 bx.l4), (.int .u64 bz.l0), (.int .u64 bz.l1), (.int .u64 bz.l2), (.int .u64 bz.l3), (.int .u64 bz.l4)], 81, true⟩] := hM
  show wpList _ _ _ (_ :: _) (putAll _ ((7, _) :: (6, _) :: _)) _
  refine T_store 0 hn hM rfl rfl rfl rfl rfl rfl rfl (c' := #[(.int .u64 c1.l0), (.int .u64 c1.l1), (.int .u64 c1.l2), (.int .u64 c1.l3), (.int .u64 c1.l4)]) (sets_row sz30 rfl rfl rfl) (fun w hM => ?_)
  replace hM : Mem _ _ w [⟨(β1 18), #[(.int .u64 c1.l0), (.int .u64 c1.l1), (.int .u64 c1.l2), (.int .u64 c1.l3), (.int .u64 c1.l4)], 30, true⟩, ⟨(β1 19), #[(.int .u64 0), (.int .u64 0), (.int .u64 0), (.int .u64 0), (.int .u64 0)], 30, true⟩, ⟨b0, #[(.int .u64 x.l0), (.int .u64 x.l1), (.int .u64 x.l2), (.int .u64 x.l3), (.int .u64 x.l4)], 30, true⟩, ⟨pa, #[(.int .u64 ax.l0), (.int .u64 ax.l1), (.int .u64 ax.l2), (.int .u64 ax.l3), (.int .u64 ax.l4), (.int .u64 az.l0), (.int .u64 az.l1), (.int .u64 az.l2), (.int .u64 az.l3), (.int .u64 az.l4)], 81, true⟩, ⟨pb, #[(.int .u64 bx.l0), (.int .u64 bx.l1), (.int .u64 bx.l2), (.int .u64 bx.l3), (.int .u64 bx.l4), (.int .u64 bz.l0), (.int .u64 bz.l1), (.int .u64 bz.l2), (.int .u64 bz.l3), (.int .u64 bz.l4)], 81, true⟩] := hM
  refine T_store 1 hn hM rfl rfl rfl rfl rfl rfl rfl (c' := #[(.int .u64 c2.l0), (.int .u64 c2.l1), (.int .u64 c2.l2), (.int .u64 c2.l3), (.int .u64 c2.l4)]) (sets_row sz30 rfl rfl rfl) (fun w hM => ?_)
  replace hM : Mem _ _ w [⟨(β1 18), #[(.int .u64 c1.l0), (.int .u64 c1.l1), (.int .u64 c1.l2), (.int .u64 c1.l3), (.int .u64 c1.l4)], 30, true⟩, ⟨(β1 19), #[(.int .u64 c2.l0), (.int .u64 c2.l1), (.int .u64 c2.l2), (.int .u64 c2.l3), (.int .u64 c2.l4)], 30, true⟩, ⟨b0, #[(.int .u64 x.l0), (.int .u64 x.l1), (.int .u64 x.l2), (.int .u64 x.l3), (.int .u64 x.l4)], 30, true⟩, ⟨pa, #[(.int .u64 ax.l0), (.int .u64 ax.l1), (.int .u64 ax.l2), (.int .u64 ax.l3), (.int .u64 ax.l4), (.int .u64 az.l0), (.int .u64 az.l1), (.int .u64 az.l2), (.int .u64 az.l3), (.int .u64 az.l4)], 81, true⟩, ⟨pb, #[(.int .u64 bx.l0), (.int .u64 bx.l1), (.int .u64 bx.l2), (.int .u64 bx.l3), (.int .u64 bx.l4), (.int .u64 bz.l0), (.int .u64 bz.l1), (.int .u64 bz.l2), (.int .u64 bz.l3), (.int .u64 bz.l4)], 81, true⟩] := hM
  refine T_nil ?_
  refine wp_seq ?_
  refine R_any [.val, .val, .val, .val, .alloc, .alloc] 6 [⟨4, #[(.int .u64 0), (.int .u64 0), (.int .u64 0), (.int .u64 0), (.int .u64 0)], #[(.int .u64 0), (.int .u64 0), (.int .u64 0), (.int .u64 0), (.int .u64 0)], 30⟩, ⟨5, #[(.int .u64 0), (.int .u64 0), (.int .u64 0), (.int .u64 0), (.int .u64 0)], #[(.int .u64 0), (.int .u64 0), (.int .u64 0), (.int .u64 0), (.int .u64 0)], 30⟩] [(4, 8), (5, 9)] hn hM rfl (by kernel_rfl) (by kernel_rfl) rfl rfl rfl ?_
  refine E_val 31 rfl rfl rfl rfl (v := (.agg #[(.int .u64 c1.l0), (.int .u64 c1.l1), (.int .u64 c1.l2), (.int .u64 c1.l3), (.int .u64 c1.l4)])) (g_loadRow 0 [(.int .u64 c1.l0), (.int .u64 c1.l1), (.int .u64 c1.l2), (.int .u64 c1.l3), (.int .u64 c1.l4)] rfl rfl rfl Tryd.underlying30 rfl sz30 rfl) ?_
  refine E_call 32 rfl rfl rfl rfl (v := c3.v) (g_call pc3 rfl rfl rfl Tryd.func45 nm45 bd45) ?_
  refine E_val 33 rfl rfl rfl rfl (v := (.agg #[(.int .u64 c2.l0), (.int .u64 c2.l1), (.int .u64 c2.l2), (.int .u64 c2.l3), (.int .u64 c2.l4)])) (g_loadRow 1 [(.int .u64 c2.l0), (.int .u64 c2.l1), (.int .u64 c2.l2), (.int .u64 c2.l3), (.int .u64 c2.l4)] rfl rfl rfl Tryd.underlying30 rfl sz30 rfl) ?_
  refine E_call 34 rfl rfl rfl rfl (v := c4.v) (g_call pc4 rfl rfl rfl Tryd.func45 nm45 bd45) ?_
  refine E_skip rfl ?_
  refine E_skip rfl ?_
  refine E_nil ?_
  refine ⟨?_, fun β2 w hM => ?_⟩
  · skip
    refine M_val rfl ?_
    refine M_val rfl ?_
    refine M_val rfl ?_
    refine M_val rfl ?_
    refine M_alloc rfl rfl (runs_alloc rfl Tryd.zeroValue30 rfl) ?_
    refine M_alloc rfl rfl (runs_alloc rfl Tryd.zeroValue30 rfl) ?_
    exact M_nil
  replace hM : Mem _ _ w [⟨(β2 4), #[(.int .u64 0), (.int .u64 0), (.int .u64 0), (.int .u64 0), (.int .u64 0)], 30, true⟩, ⟨(β2 5), #[(.int .u64 0), (.int .u64 0), (.int .u64 0), (.int .u64 0), (.int .u64 0)], 30, true⟩, ⟨(β1 18), #[(.int .u64 c1.l0), (.int .u64 c1.l1), (.int .u64 c1.l2), (.int .u64 c1.l3), (.int .u64 c1.l4)], 30, true⟩, ⟨(β1 19), #[(.int .u64 c2.l0), (.int .u64 c2.l1), (.int .u64 c2.l2), (.int .u64 c2.l3), (.int .u64 c2.l4)], 30, true⟩, ⟨b0, #[(.int .u64 x.l0), (.int .u64 x.l1), (.int .u64 x.l2), (.int .u64 x.l3), (.int .u64 x.l4)], 30, true⟩, ⟨pa, #[(.int .u64 ax.l0), (.int .u64 ax.l1), (.int .u64 ax.l2), (.int .u64 ax.l3), (.int .u64 ax.l4), (.int .u64 az.l0), (.int .u64 az.l1), (.int .u64 az.l2), (.int .u64 az.l3), (.int .u64 az.l4)], 81, true⟩, ⟨pb, #[(.int .u64 bx.l0), (.int .u64 bx.l1), (.int .u64 bx.l2), (.int .u64 bx.l3), (.int .u64 bx.l4), (.int .u64 bz.l0), (.int .u64 bz.l1), (.int .u64 bz.l2), (.int .u64 bz.l3), (.int .u64 bz.l4)], 81, true⟩] := hM
  show wpList _ _ _ (_ :: _) (putAll _ ((9, _) :: (8, _) :: _)) _
  refine T_store 0 hn hM rfl rfl rfl rfl rfl rfl rfl (c' := #[(.int .u64 c3.l0), (.int .u64 c3.l1), (.int .u64 c3.l2), (.int .u64 c3.l3), (.int .u64 c3.l4)]) (sets_row sz30 rfl rfl rfl) (fun w hM => ?_)
  replace hM : Mem _ _ w [⟨(β2 4), #[(.int .u64 c3.l0), (.int .u64 c3.l1), (.int .u64 c3.l2), (.int .u64 c3.l3), (.int .u64 c3.l4)], 30, true⟩, ⟨(β2 5), #[(.int .u64 0), (.int .u64 0), (.int .u64 0), (.int .u64 0), (.int .u64 0)], 30, true⟩, ⟨(β1 18), #[(.int .u64 c1.l0), (.int .u64 c1.l1), (.int .u64 c1.l2), (.int .u64 c1.l3), (.int .u64 c1.l4)], 30, true⟩, ⟨(β1 19), #[(.int .u64 c2.l0), (.int .u64 c2.l1), (.int .u64 c2.l2), (.int .u64 c2.l3), (.int .u64 c2.l4)], 30, true⟩, ⟨b0, #[(.int .u64 x.l0), (.int .u64 x.l1), (.int .u64 x.l2), (.int .u64 x.l3), (.int .u64 x.l4)], 30, true⟩, ⟨pa, #[(.int .u64 ax.l0), (.int .u64 ax.l1), (.int .u64 ax.l2), (.int .u64 ax.l3), (.int .u64 ax.l4), (.int .u64 az.l0), (.int .u64 az.l1), (.int .u64 az.l2), (.int .u64 az.l3), (.int .u64 az.l4)], 81, true⟩, ⟨pb, #[(.int .u64 bx.l0), (.int .u64 bx.l1), (.int .u64 bx.l2), (.int .u64 bx.l3), (.int .u64 bx.l4), (.int .u64 bz.l0), (.int .u64 bz.l1), (.int .u64 bz.l2), (.int .u64 bz.l3), (.int .u64 bz.l4)], 81, true⟩] := hM
  refine T_store 1 hn hM rfl rfl rfl rfl rfl rfl rfl (c' := #[(.int .u64 c4.l0), (.int .u64 c4.l1), (.int .u64 c4.l2), (.int .u64 c4.l3), (.int .u64 c4.l4)]) (sets_row sz30 rfl rfl rfl) (fun w hM => ?_)
  replace hM : Mem _ _ w [⟨(β2 4), #[(.int .u64 c3.l0), (.int .u64 c3.l1), (.int .u64 c3.l2), (.int .u64 c3.l3), (.int .u64 c3.l4)], 30, true⟩, ⟨(β2 5), #[(.int .u64 c4.l0), (.int .u64 c4.l1), (.int .u64 c4.l2), (.int .u64 c4.l3), (.int .u64 c4.l4)], 30, true⟩, ⟨(β1 18), #[(.int .u64 c1.l0), (.int .u64 c1.l1), (.int .u64 c1.l2), (.int .u64 c1.l3), (.int .u64 c1.l4)], 30, true⟩, ⟨(β1 19), #[(.int .u64 c2.l0), (.int .u64 c2.l1), (.int .u64 c2.l2), (.int .u64 c2.l3), (.int .u64 c2.l4)], 30, true⟩, ⟨b0, #[(.int .u64 x.l0), (.int .u64 x.l1), (.int .u64 x.l2), (.int .u64 x.l3), (.int .u64 x.l4)], 30, true⟩, ⟨pa, #[(.int .u64 ax.l0), (.int .u64 ax.l1), (.int .u64 ax.l2), (.int .u64 ax.l3), (.int .u64 ax.l4), (.int .u64 az.l0), (.int .u64 az.l1), (.int .u64 az.l2), (.int .u64 az.l3), (.int .u64 az.l4)], 81, true⟩, ⟨pb, #[(.int .u64 bx.l0), (.int .u64 bx.l1), (.int .u64 bx.l2), (.int .u64 bx.l3), (.int .u64 bx.l4), (.int .u64 bz.l0), (.int .u64 bz.l1), (.int .u64 bz.l2), (.int .u64 bz.l3), (.int .u64 bz.l4)], 81, true⟩] := hM
  refine T_nil ?_
  refine wp_seq ?_
  refine wp_region_lit ?_
  refine T_val 35 hn hM rfl rfl rfl (v := (.agg #[(.int .u64 c3.l0), (.int .u64 c3.l1), (.int .u64 c3.l2), (.int .u64 c3.l3), (.int .u64 c3.l4)])) (g_loadRow 0 [(.int .u64 c3.l0), (.int .u64 c3.l1), (.int .u64 c3.l2), (.int .u64 c3.l3), (.int .u64 c3.l4)] rfl rfl rfl Tryd.underlying30 rfl sz30 rfl) ?_
  refine T_val 36 hn hM rfl rfl rfl (v := (.agg #[(.int .u64 c4.l0), (.int .u64 c4.l1), (.int .u64 c4.l2), (.int .u64 c4.l3), (.int .u64 c4.l4)])) (g_loadRow 1 [(.int .u64 c4.l0), (.int .u64 c4.l1), (.int .u64 c4.l2), (.int .u64 c4.l3), (.int .u64 c4.l4)] rfl rfl rfl Tryd.underlying30 rfl sz30 rfl) ?_
  refine T_call 37 hn hM rfl rfl rfl (v := c5.v) (g_call pc5 rfl rfl rfl Tryd.func11 nm11 bd11) (fun w hM => ?_)
  refine T_alloc 10 hn hM rfl rfl rfl rfl Tryd.zeroValue30 #[(.int .u64 0), (.int .u64 0), (.int .u64 0), (.int .u64 0), (.int .u64 0)] rfl (fun b1 w hM => ?_)
  refine T_store 0 hn hM rfl rfl rfl rfl rfl rfl rfl (c' := #[(.int .u64 c5.l0), (.int .u64 c5.l1), (.int .u64 c5.l2), (.int .u64 c5.l3), (.int .u64 c5.l4)]) (sets_row sz30 rfl rfl rfl) (fun w hM => ?_)
  replace hM : Mem _ _ w [⟨b1, #[(.int .u64 c5.l0), (.int .u64 c5.l1), (.int .u64 c5.l2), (.int .u64 c5.l3), (.int .u64 c5.l4)], 30, true⟩, ⟨(β2 4), #[(.int .u64 c3.l0), (.int .u64 c3.l1), (.int .u64 c3.l2), (.int .u64 c3.l3), (.int .u64 c3.l4)], 30, true⟩, ⟨(β2 5), #[(.int .u64 c4.l0), (.int .u64 c4.l1), (.int .u64 c4.l2), (.int .u64 c4.l3), (.int .u64 c4.l4)], 30, true⟩, ⟨(β1 18), #[(.int .u64 c1.l0), (.int .u64 c1.l1), (.int .u64 c1.l2), (.int .u64 c1.l3), (.int .u64 c1.l4)], 30, true⟩, ⟨(β1 19), #[(.int .u64 c2.l0), (.int .u64 c2.l1), (.int .u64 c2.l2), (.int .u64 c2.l3), (.int .u64 c2.l4)], 30, true⟩, ⟨b0, #[(.int .u64 x.l0), (.int .u64 x.l1), (.int .u64 x.l2), (.int .u64 x.l3), (.int .u64 x.l4)], 30, true⟩, ⟨pa, #[(.int .u64 ax.l0), (.int .u64 ax.l1), (.int .u64 ax.l2), (.int .u64 ax.l3), (.int .u64 ax.l4), (.int .u64 az.l0), (.int .u64 az.l1), (.int .u64 az.l2), (.int .u64 az.l3), (.int .u64 az.l4)], 81, true⟩, ⟨pb, #[(.int .u64 bx.l0), (.int .u64 bx.l1), (.int .u64 bx.l2), (.int .u64 bx.l3), (.int .u64 bx.l4), (.int .u64 bz.l0), (.int .u64 bz.l1), (.int .u64 bz.l2), (.int .u64 bz.l3), (.int .u64 bz.l4)], 81, true⟩] := hM
  refine T_nil ?_
  refine wp_seq ?_
  refine R_any [.val, .val, .val, .val, .val, .val, .val, .val, .val, .val, .val, .alloc] 12 [⟨11, #[(.int .u64 0), (.int .u64 0), (.int .u64 0), (.int .u64 0), (.int .u64 0)], #[(.int .u64 0), (.int .u64 0), (.int .u64 0), (.int .u64 0), (.int .u64 0)], 30⟩] [(11, 11)] hn hM rfl (by kernel_rfl) (by kernel_rfl) rfl rfl rfl ?_
  refine E_val 38 rfl rfl rfl rfl (v := (.pointer (some ⟨pb, 0, none⟩))) (g_move rfl rfl) ?_
  refine E_val 39 rfl rfl rfl rfl (v := (.pointer (some ⟨pb, 0, none⟩))) (g_nilCheck rfl rfl) ?_
  refine E_val 40 rfl rfl rfl rfl (v := (.pointer (some ⟨pb, 0, none⟩))) (g_fieldAddr rfl rfl Tryd.underlying81 rfl Tryd.sizeOf30 0 rfl) ?_
  refine E_val 41 rfl rfl rfl rfl (v := (.agg #[(.int .u64 bx.l0), (.int .u64 bx.l1), (.int .u64 bx.l2), (.int .u64 bx.l3), (.int .u64 bx.l4)])) (g_loadRow 7 [(.int .u64 bx.l0), (.int .u64 bx.l1), (.int .u64 bx.l2), (.int .u64 bx.l3), (.int .u64 bx.l4)] rfl rfl rfl Tryd.underlying30 rfl sz30 rfl) ?_
  refine E_val 42 rfl rfl rfl rfl (v := (.pointer (some ⟨pb, 0, none⟩))) (g_move rfl rfl) ?_
  refine E_val 43 rfl rfl rfl rfl (v := (.pointer (some ⟨pb, 0, none⟩))) (g_nilCheck rfl rfl) ?_
  refine E_val 44 rfl rfl rfl rfl (v := (.pointer (some ⟨pb, 5, none⟩))) (g_fieldAddr rfl rfl Tryd.underlying81 rfl Tryd.sizeOf30 5 rfl) ?_
  refine E_val 45 rfl rfl rfl rfl (v := (.agg #[(.int .u64 bz.l0), (.int .u64 bz.l1), (.int .u64 bz.l2), (.int .u64 bz.l3), (.int .u64 bz.l4)])) (g_loadRow 7 [(.int .u64 bz.l0), (.int .u64 bz.l1), (.int .u64 bz.l2), (.int .u64 bz.l3), (.int .u64 bz.l4)] rfl rfl rfl Tryd.underlying30 rfl sz30 rfl) ?_
  refine E_call 46 rfl rfl rfl rfl (v := c6.v) (g_call pc6 rfl rfl rfl Tryd.func11 nm11 bd11) ?_
  refine E_val 47 rfl rfl rfl rfl (v := (.agg #[(.int .u64 c1.l0), (.int .u64 c1.l1), (.int .u64 c1.l2), (.int .u64 c1.l3), (.int .u64 c1.l4)])) (g_loadRow 3 [(.int .u64 c1.l0), (.int .u64 c1.l1), (.int .u64 c1.l2), (.int .u64 c1.l3), (.int .u64 c1.l4)] rfl rfl rfl Tryd.underlying30 rfl sz30 rfl) ?_
  refine E_call 48 rfl rfl rfl rfl (v := c7.v) (g_call pc7 rfl rfl rfl Tryd.func10 nm10 bd10) ?_
  refine E_skip rfl ?_
  refine E_nil ?_
  refine ⟨?_, fun β3 w hM => ?_⟩
  · skip
    refine M_val rfl ?_
    refine M_val rfl ?_
    refine M_val rfl ?_
    refine M_val rfl ?_
    refine M_val rfl ?_
    refine M_val rfl ?_
    refine M_val rfl ?_
    refine M_val rfl ?_
    refine M_val rfl ?_
    refine M_val rfl ?_
    refine M_val rfl ?_
    refine M_alloc rfl rfl (runs_alloc rfl Tryd.zeroValue30 rfl) ?_
    exact M_nil
  replace hM : Mem _ _ w [⟨(β3 11), #[(.int .u64 0), (.int .u64 0), (.int .u64 0), (.int .u64 0), (.int .u64 0)], 30, true⟩, ⟨b1, #[(.int .u64 c5.l0), (.int .u64 c5.l1), (.int .u64 c5.l2), (.int .u64 c5.l3), (.int .u64 c5.l4)], 30, true⟩, ⟨(β2 4), #[(.int .u64 c3.l0), (.int .u64 c3.l1), (.int .u64 c3.l2), (.int .u64 c3.l3), (.int .u64 c3.l4)], 30, true⟩, ⟨(β2 5), #[(.int .u64 c4.l0), (.int .u64 c4.l1), (.int .u64 c4.l2), (.int .u64 c4.l3), (.int .u64 c4.l4)], 30, true⟩, ⟨(β1 18), #[(.int .u64 c1.l0), (.int .u64 c1.l1), (.int .u64 c1.l2), (.int .u64 c1.l3), (.int .u64 c1.l4)], 30, true⟩, ⟨(β1 19), #[(.int .u64 c2.l0), (.int .u64 c2.l1), (.int .u64 c2.l2), (.int .u64 c2.l3), (.int .u64 c2.l4)], 30, true⟩, ⟨b0, #[(.int .u64 x.l0), (.int .u64 x.l1), (.int .u64 x.l2), (.int .u64 x.l3), (.int .u64 x.l4)], 30, true⟩, ⟨pa, #[(.int .u64 ax.l0), (.int .u64 ax.l1), (.int .u64 ax.l2), (.int .u64 ax.l3), (.int .u64 ax.l4), (.int .u64 az.l0), (.int .u64 az.l1), (.int .u64 az.l2), (.int .u64 az.l3), (.int .u64 az.l4)], 81, true⟩, ⟨pb, #[(.int .u64 bx.l0), (.int .u64 bx.l1), (.int .u64 bx.l2), (.int .u64 bx.l3), (.int .u64 bx.l4), (.int .u64 bz.l0), (.int .u64 bz.l1), (.int .u64 bz.l2), (.int .u64 bz.l3), (.int .u64 bz.l4)], 81, true⟩] := hM
  show wpList _ _ _ (_ :: _) (putAll _ ((11, _) :: _)) _
  refine T_store 0 hn hM rfl rfl rfl rfl rfl rfl rfl (c' := #[(.int .u64 c7.l0), (.int .u64 c7.l1), (.int .u64 c7.l2), (.int .u64 c7.l3), (.int .u64 c7.l4)]) (sets_row sz30 rfl rfl rfl) (fun w hM => ?_)
  replace hM : Mem _ _ w [⟨(β3 11), #[(.int .u64 c7.l0), (.int .u64 c7.l1), (.int .u64 c7.l2), (.int .u64 c7.l3), (.int .u64 c7.l4)], 30, true⟩, ⟨b1, #[(.int .u64 c5.l0), (.int .u64 c5.l1), (.int .u64 c5.l2), (.int .u64 c5.l3), (.int .u64 c5.l4)], 30, true⟩, ⟨(β2 4), #[(.int .u64 c3.l0), (.int .u64 c3.l1), (.int .u64 c3.l2), (.int .u64 c3.l3), (.int .u64 c3.l4)], 30, true⟩, ⟨(β2 5), #[(.int .u64 c4.l0), (.int .u64 c4.l1), (.int .u64 c4.l2), (.int .u64 c4.l3), (.int .u64 c4.l4)], 30, true⟩, ⟨(β1 18), #[(.int .u64 c1.l0), (.int .u64 c1.l1), (.int .u64 c1.l2), (.int .u64 c1.l3), (.int .u64 c1.l4)], 30, true⟩, ⟨(β1 19), #[(.int .u64 c2.l0), (.int .u64 c2.l1), (.int .u64 c2.l2), (.int .u64 c2.l3), (.int .u64 c2.l4)], 30, true⟩, ⟨b0, #[(.int .u64 x.l0), (.int .u64 x.l1), (.int .u64 x.l2), (.int .u64 x.l3), (.int .u64 x.l4)], 30, true⟩, ⟨pa, #[(.int .u64 ax.l0), (.int .u64 ax.l1), (.int .u64 ax.l2), (.int .u64 ax.l3), (.int .u64 ax.l4), (.int .u64 az.l0), (.int .u64 az.l1), (.int .u64 az.l2), (.int .u64 az.l3), (.int .u64 az.l4)], 81, true⟩, ⟨pb, #[(.int .u64 bx.l0), (.int .u64 bx.l1), (.int .u64 bx.l2), (.int .u64 bx.l3), (.int .u64 bx.l4), (.int .u64 bz.l0), (.int .u64 bz.l1), (.int .u64 bz.l2), (.int .u64 bz.l3), (.int .u64 bz.l4)], 81, true⟩] := hM
  refine T_nil ?_
  refine wp_seq ?_
  refine R_any [.val, .val, .val, .val, .val, .val, .val, .val, .val, .val, .val, .alloc] 12 [⟨11, #[(.int .u64 0), (.int .u64 0), (.int .u64 0), (.int .u64 0), (.int .u64 0)], #[(.int .u64 0), (.int .u64 0), (.int .u64 0), (.int .u64 0), (.int .u64 0)], 30⟩] [(11, 12)] hn hM rfl (by kernel_rfl) (by kernel_rfl) rfl rfl rfl ?_
  refine E_val 49 rfl rfl rfl rfl (v := (.pointer (some ⟨pb, 0, none⟩))) (g_move rfl rfl) ?_
  refine E_val 50 rfl rfl rfl rfl (v := (.pointer (some ⟨pb, 0, none⟩))) (g_nilCheck rfl rfl) ?_
  refine E_val 51 rfl rfl rfl rfl (v := (.pointer (some ⟨pb, 0, none⟩))) (g_fieldAddr rfl rfl Tryd.underlying81 rfl Tryd.sizeOf30 0 rfl) ?_
  refine E_val 52 rfl rfl rfl rfl (v := (.agg #[(.int .u64 bx.l0), (.int .u64 bx.l1), (.int .u64 bx.l2), (.int .u64 bx.l3), (.int .u64 bx.l4)])) (g_loadRow 8 [(.int .u64 bx.l0), (.int .u64 bx.l1), (.int .u64 bx.l2), (.int .u64 bx.l3), (.int .u64 bx.l4)] rfl rfl rfl Tryd.underlying30 rfl sz30 rfl) ?_
  refine E_val 53 rfl rfl rfl rfl (v := (.pointer (some ⟨pb, 0, none⟩))) (g_move rfl rfl) ?_
  refine E_val 54 rfl rfl rfl rfl (v := (.pointer (some ⟨pb, 0, none⟩))) (g_nilCheck rfl rfl) ?_
  refine E_val 55 rfl rfl rfl rfl (v := (.pointer (some ⟨pb, 5, none⟩))) (g_fieldAddr rfl rfl Tryd.underlying81 rfl Tryd.sizeOf30 5 rfl) ?_
  refine E_val 56 rfl rfl rfl rfl (v := (.agg #[(.int .u64 bz.l0), (.int .u64 bz.l1), (.int .u64 bz.l2), (.int .u64 bz.l3), (.int .u64 bz.l4)])) (g_loadRow 8 [(.int .u64 bz.l0), (.int .u64 bz.l1), (.int .u64 bz.l2), (.int .u64 bz.l3), (.int .u64 bz.l4)] rfl rfl rfl Tryd.underlying30 rfl sz30 rfl) ?_
  refine E_call 57 rfl rfl rfl rfl (v := c8.v) (g_call pc8 rfl rfl rfl Tryd.func9 nm9 bd9) ?_
  refine E_val 58 rfl rfl rfl rfl (v := (.agg #[(.int .u64 c2.l0), (.int .u64 c2.l1), (.int .u64 c2.l2), (.int .u64 c2.l3), (.int .u64 c2.l4)])) (g_loadRow 5 [(.int .u64 c2.l0), (.int .u64 c2.l1), (.int .u64 c2.l2), (.int .u64 c2.l3), (.int .u64 c2.l4)] rfl rfl rfl Tryd.underlying30 rfl sz30 rfl) ?_
  refine E_call 59 rfl rfl rfl rfl (v := c9.v) (g_call pc9 rfl rfl rfl Tryd.func10 nm10 bd10) ?_
  refine E_skip rfl ?_
  refine E_nil ?_
  refine ⟨?_, fun β4 w hM => ?_⟩
  · skip
    refine M_val rfl ?_
    refine M_val rfl ?_
    refine M_val rfl ?_
    refine M_val rfl ?_
    refine M_val rfl ?_
    refine M_val rfl ?_
    refine M_val rfl ?_
    refine M_val rfl ?_
    refine M_val rfl ?_
    refine M_val rfl ?_
    refine M_val rfl ?_
    refine M_alloc rfl rfl (runs_alloc rfl Tryd.zeroValue30 rfl) ?_
    exact M_nil
  replace hM : Mem _ _ w [⟨(β4 11), #[(.int .u64 0), (.int .u64 0), (.int .u64 0), (.int .u64 0), (.int .u64 0)], 30, true⟩, ⟨(β3 11), #[(.int .u64 c7.l0), (.int .u64 c7.l1), (.int .u64 c7.l2), (.int .u64 c7.l3), (.int .u64 c7.l4)], 30, true⟩, ⟨b1, #[(.int .u64 c5.l0), (.int .u64 c5.l1), (.int .u64 c5.l2), (.int .u64 c5.l3), (.int .u64 c5.l4)], 30, true⟩, ⟨(β2 4), #[(.int .u64 c3.l0), (.int .u64 c3.l1), (.int .u64 c3.l2), (.int .u64 c3.l3), (.int .u64 c3.l4)], 30, true⟩, ⟨(β2 5), #[(.int .u64 c4.l0), (.int .u64 c4.l1), (.int .u64 c4.l2), (.int .u64 c4.l3), (.int .u64 c4.l4)], 30, true⟩, ⟨(β1 18), #[(.int .u64 c1.l0), (.int .u64 c1.l1), (.int .u64 c1.l2), (.int .u64 c1.l3), (.int .u64 c1.l4)], 30, true⟩, ⟨(β1 19), #[(.int .u64 c2.l0), (.int .u64 c2.l1), (.int .u64 c2.l2), (.int .u64 c2.l3), (.int .u64 c2.l4)], 30, true⟩, ⟨b0, #[(.int .u64 x.l0), (.int .u64 x.l1), (.int .u64 x.l2), (.int .u64 x.l3), (.int .u64 x.l4)], 30, true⟩, ⟨pa, #[(.int .u64 ax.l0), (.int .u64 ax.l1), (.int .u64 ax.l2), (.int .u64 ax.l3), (.int .u64 ax.l4), (.int .u64 az.l0), (.int .u64 az.l1), (.int .u64 az.l2), (.int .u64 az.l3), (.int .u64 az.l4)], 81, true⟩, ⟨pb, #[(.int .u64 bx.l0), (.int .u64 bx.l1), (.int .u64 bx.l2), (.int .u64 bx.l3), (.int .u64 bx.l4), (.int .u64 bz.l0), (.int .u64 bz.l1), (.int .u64 bz.l2), (.int .u64 bz.l3), (.int .u64 bz.l4)], 81, true⟩] := hM
  show wpList _ _ _ (_ :: _) (putAll _ ((12, _) :: _)) _
  refine T_store 0 hn hM rfl rfl rfl rfl rfl rfl rfl (c' := #[(.int .u64 c9.l0), (.int .u64 c9.l1), (.int .u64 c9.l2), (.int .u64 c9.l3), (.int .u64 c9.l4)]) (sets_row sz30 rfl rfl rfl) (fun w hM => ?_)
  replace hM : Mem _ _ w [⟨(β4 11), #[(.int .u64 c9.l0), (.int .u64 c9.l1), (.int .u64 c9.l2), (.int .u64 c9.l3), (.int .u64 c9.l4)], 30, true⟩, ⟨(β3 11), #[(.int .u64 c7.l0), (.int .u64 c7.l1), (.int .u64 c7.l2), (.int .u64 c7.l3), (.int .u64 c7.l4)], 30, true⟩, ⟨b1, #[(.int .u64 c5.l0), (.int .u64 c5.l1), (.int .u64 c5.l2), (.int .u64 c5.l3), (.int .u64 c5.l4)], 30, true⟩, ⟨(β2 4), #[(.int .u64 c3.l0), (.int .u64 c3.l1), (.int .u64 c3.l2), (.int .u64 c3.l3), (.int .u64 c3.l4)], 30, true⟩, ⟨(β2 5), #[(.int .u64 c4.l0), (.int .u64 c4.l1), (.int .u64 c4.l2), (.int .u64 c4.l3), (.int .u64 c4.l4)], 30, true⟩, ⟨(β1 18), #[(.int .u64 c1.l0), (.int .u64 c1.l1), (.int .u64 c1.l2), (.int .u64 c1.l3), (.int .u64 c1.l4)], 30, true⟩, ⟨(β1 19), #[(.int .u64 c2.l0), (.int .u64 c2.l1), (.int .u64 c2.l2), (.int .u64 c2.l3), (.int .u64 c2.l4)], 30, true⟩, ⟨b0, #[(.int .u64 x.l0), (.int .u64 x.l1), (.int .u64 x.l2), (.int .u64 x.l3), (.int .u64 x.l4)], 30, true⟩, ⟨pa, #[(.int .u64 ax.l0), (.int .u64 ax.l1), (.int .u64 ax.l2), (.int .u64 ax.l3), (.int .u64 ax.l4), (.int .u64 az.l0), (.int .u64 az.l1), (.int .u64 az.l2), (.int .u64 az.l3), (.int .u64 az.l4)], 81, true⟩, ⟨pb, #[(.int .u64 bx.l0), (.int .u64 bx.l1), (.int .u64 bx.l2), (.int .u64 bx.l3), (.int .u64 bx.l4), (.int .u64 bz.l0), (.int .u64 bz.l1), (.int .u64 bz.l2), (.int .u64 bz.l3), (.int .u64 bz.l4)], 81, true⟩] := hM
  refine T_nil ?_
  refine wp_seq ?_
  refine R_any [.val, .val, .val, .val, .val, .val, .val, .val, .val, .val, .val, .val] 12 [] [] hn hM rfl (by kernel_rfl) (by kernel_rfl) rfl rfl rfl ?_
  refine E_val 60 rfl rfl rfl rfl (v := (.pointer (some ⟨pb, 0, none⟩))) (g_move rfl rfl) ?_
  refine E_val 61 rfl rfl rfl rfl (v := (.agg #[(.int .u64 c7.l0), (.int .u64 c7.l1), (.int .u64 c7.l2), (.int .u64 c7.l3), (.int .u64 c7.l4)])) (g_loadRow 1 [(.int .u64 c7.l0), (.int .u64 c7.l1), (.int .u64 c7.l2), (.int .u64 c7.l3), (.int .u64 c7.l4)] rfl rfl rfl Tryd.underlying30 rfl sz30 rfl) ?_
  refine E_val 62 rfl rfl rfl rfl (v := (.agg #[(.int .u64 c9.l0), (.int .u64 c9.l1), (.int .u64 c9.l2), (.int .u64 c9.l3), (.int .u64 c9.l4)])) (g_loadRow 0 [(.int .u64 c9.l0), (.int .u64 c9.l1), (.int .u64 c9.l2), (.int .u64 c9.l3), (.int .u64 c9.l4)] rfl rfl rfl Tryd.underlying30 rfl sz30 rfl) ?_
  refine E_call 63 rfl rfl rfl rfl (v := c10.v) (g_call pc10 rfl rfl rfl Tryd.func9 nm9 bd9) ?_
  refine E_call 64 rfl rfl rfl rfl (v := c11.v) (g_call pc11 rfl rfl rfl Tryd.func45 nm45 bd45) ?_
  refine E_val 65 rfl rfl rfl rfl (v := (.agg #[(.int .u64 x.l0), (.int .u64 x.l1), (.int .u64 x.l2), (.int .u64 x.l3), (.int .u64 x.l4)])) (g_loadRow 7 [(.int .u64 x.l0), (.int .u64 x.l1), (.int .u64 x.l2), (.int .u64 x.l3), (.int .u64 x.l4)] rfl rfl rfl Tryd.underlying30 rfl sz30 rfl) ?_
  refine E_val 66 rfl rfl rfl rfl (v := (.agg #[(.int .u64 c7.l0), (.int .u64 c7.l1), (.int .u64 c7.l2), (.int .u64 c7.l3), (.int .u64 c7.l4)])) (g_loadRow 1 [(.int .u64 c7.l0), (.int .u64 c7.l1), (.int .u64 c7.l2), (.int .u64 c7.l3), (.int .u64 c7.l4)] rfl rfl rfl Tryd.underlying30 rfl sz30 rfl) ?_
  refine E_val 67 rfl rfl rfl rfl (v := (.agg #[(.int .u64 c9.l0), (.int .u64 c9.l1), (.int .u64 c9.l2), (.int .u64 c9.l3), (.int .u64 c9.l4)])) (g_loadRow 0 [(.int .u64 c9.l0), (.int .u64 c9.l1), (.int .u64 c9.l2), (.int .u64 c9.l3), (.int .u64 c9.l4)] rfl rfl rfl Tryd.underlying30 rfl sz30 rfl) ?_
  refine E_call 68 rfl rfl rfl rfl (v := c12.v) (g_call pc12 rfl rfl rfl Tryd.func11 nm11 bd11) ?_
  refine E_call 69 rfl rfl rfl rfl (v := c13.v) (g_call pc13 rfl rfl rfl Tryd.func45 nm45 bd45) ?_
  refine E_call 70 rfl rfl rfl rfl (v := c14.v) (g_call pc14 rfl rfl rfl Tryd.func10 nm10 bd10) ?_
  refine E_val 71 rfl rfl rfl rfl (v := (.agg #[(.int .u64 c11.l0), (.int .u64 c11.l1), (.int .u64 c11.l2), (.int .u64 c11.l3), (.int .u64 c11.l4), (.int .u64 c14.l0), (.int .u64 c14.l1), (.int .u64 c14.l2), (.int .u64 c14.l3), (.int .u64 c14.l4)])) (g_build rfl (by kernel_rfl)) ?_
  refine E_nil ?_
  refine ⟨?_, fun β5 w hM => ?_⟩
  · skip
    refine M_val rfl ?_
    refine M_val rfl ?_
    refine M_val rfl ?_
    refine M_val rfl ?_
    refine M_val rfl ?_
    refine M_val rfl ?_
    refine M_val rfl ?_
    refine M_val rfl ?_
    refine M_val rfl ?_
    refine M_val rfl ?_
    refine M_val rfl ?_
    refine M_val rfl ?_
    exact M_nil
  show wpList _ _ _ (_ :: _) (putAll _ (_)) _
  refine T_val 72 hn hM rfl rfl rfl (v := (.pointer (some ⟨pb, 0, none⟩))) (g_nilCheck rfl rfl) ?_
  refine T_store 9 hn hM rfl rfl rfl rfl rfl rfl rfl (c' := #[(.int .u64 c11.l0), (.int .u64 c11.l1), (.int .u64 c11.l2), (.int .u64 c11.l3), (.int .u64 c11.l4), (.int .u64 c14.l0), (.int .u64 c14.l1), (.int .u64 c14.l2), (.int .u64 c14.l3), (.int .u64 c14.l4)]) (sets_row sz81 rfl rfl rfl) (fun w hM => ?_)
  replace hM : Mem _ _ w [⟨(β4 11), #[(.int .u64 c9.l0), (.int .u64 c9.l1), (.int .u64 c9.l2), (.int .u64 c9.l3), (.int .u64 c9.l4)], 30, true⟩, ⟨(β3 11), #[(.int .u64 c7.l0), (.int .u64 c7.l1), (.int .u64 c7.l2), (.int .u64 c7.l3), (.int .u64 c7.l4)], 30, true⟩, ⟨b1, #[(.int .u64 c5.l0), (.int .u64 c5.l1), (.int .u64 c5.l2), (.int .u64 c5.l3), (.int .u64 c5.l4)], 30, true⟩, ⟨(β2 4), #[(.int .u64 c3.l0), (.int .u64 c3.l1), (.int .u64 c3.l2), (.int .u64 c3.l3), (.int .u64 c3.l4)], 30, true⟩, ⟨(β2 5), #[(.int .u64 c4.l0), (.int .u64 c4.l1), (.int .u64 c4.l2), (.int .u64 c4.l3), (.int .u64 c4.l4)], 30, true⟩, ⟨(β1 18), #[(.int .u64 c1.l0), (.int .u64 c1.l1), (.int .u64 c1.l2), (.int .u64 c1.l3), (.int .u64 c1.l4)], 30, true⟩, ⟨(β1 19), #[(.int .u64 c2.l0), (.int .u64 c2.l1), (.int .u64 c2.l2), (.int .u64 c2.l3), (.int .u64 c2.l4)], 30, true⟩, ⟨b0, #[(.int .u64 x.l0), (.int .u64 x.l1), (.int .u64 x.l2), (.int .u64 x.l3), (.int .u64 x.l4)], 30, true⟩, ⟨pa, #[(.int .u64 ax.l0), (.int .u64 ax.l1), (.int .u64 ax.l2), (.int .u64 ax.l3), (.int .u64 ax.l4), (.int .u64 az.l0), (.int .u64 az.l1), (.int .u64 az.l2), (.int .u64 az.l3), (.int .u64 az.l4)], 81, true⟩, ⟨pb, #[(.int .u64 c11.l0), (.int .u64 c11.l1), (.int .u64 c11.l2), (.int .u64 c11.l3), (.int .u64 c11.l4), (.int .u64 c14.l0), (.int .u64 c14.l1), (.int .u64 c14.l2), (.int .u64 c14.l3), (.int .u64 c14.l4)], 81, true⟩] := hM
  refine T_nil ?_
  refine R_any [.val, .val, .val, .val, .val, .val, .val, .val, .val, .val, .val, .val] 12 [] [] hn hM rfl (by kernel_rfl) (by kernel_rfl) rfl rfl rfl ?_
  refine E_val 73 rfl rfl rfl rfl (v := (.pointer (some ⟨pa, 0, none⟩))) (g_move rfl rfl) ?_
  refine E_val 74 rfl rfl rfl rfl (v := (.agg #[(.int .u64 c3.l0), (.int .u64 c3.l1), (.int .u64 c3.l2), (.int .u64 c3.l3), (.int .u64 c3.l4)])) (g_loadRow 3 [(.int .u64 c3.l0), (.int .u64 c3.l1), (.int .u64 c3.l2), (.int .u64 c3.l3), (.int .u64 c3.l4)] rfl rfl rfl Tryd.underlying30 rfl sz30 rfl) ?_
  refine E_val 75 rfl rfl rfl rfl (v := (.agg #[(.int .u64 c4.l0), (.int .u64 c4.l1), (.int .u64 c4.l2), (.int .u64 c4.l3), (.int .u64 c4.l4)])) (g_loadRow 4 [(.int .u64 c4.l0), (.int .u64 c4.l1), (.int .u64 c4.l2), (.int .u64 c4.l3), (.int .u64 c4.l4)] rfl rfl rfl Tryd.underlying30 rfl sz30 rfl) ?_
  refine E_call 76 rfl rfl rfl rfl (v := c15.v) (g_call pc15 rfl rfl rfl Tryd.func10 nm10 bd10) ?_
  refine E_val 77 rfl rfl rfl rfl (v := (.agg #[(.int .u64 c5.l0), (.int .u64 c5.l1), (.int .u64 c5.l2), (.int .u64 c5.l3), (.int .u64 c5.l4)])) (g_loadRow 2 [(.int .u64 c5.l0), (.int .u64 c5.l1), (.int .u64 c5.l2), (.int .u64 c5.l3), (.int .u64 c5.l4)] rfl rfl rfl Tryd.underlying30 rfl sz30 rfl) ?_
  refine E_val 78 rfl rfl rfl rfl (v := (.agg #[(.int .u64 c3.l0), (.int .u64 c3.l1), (.int .u64 c3.l2), (.int .u64 c3.l3), (.int .u64 c3.l4)])) (g_loadRow 3 [(.int .u64 c3.l0), (.int .u64 c3.l1), (.int .u64 c3.l2), (.int .u64 c3.l3), (.int .u64 c3.l4)] rfl rfl rfl Tryd.underlying30 rfl sz30 rfl) ?_
  refine E_call 79 rfl rfl rfl rfl (v := (⟨121665, 0, 0, 0, 0⟩ : El).v) (g_call (small_E 121665 (by decide)).2 rfl rfl rfl Tryd.func8 nm8 bd8) ?_
  refine E_val 80 rfl rfl rfl rfl (v := (.agg #[(.int .u64 c5.l0), (.int .u64 c5.l1), (.int .u64 c5.l2), (.int .u64 c5.l3), (.int .u64 c5.l4)])) (g_loadRow 2 [(.int .u64 c5.l0), (.int .u64 c5.l1), (.int .u64 c5.l2), (.int .u64 c5.l3), (.int .u64 c5.l4)] rfl rfl rfl Tryd.underlying30 rfl sz30 rfl) ?_
  refine E_call 81 rfl rfl rfl rfl (v := c16.v) (g_call pc16 rfl rfl rfl Tryd.func10 nm10 bd10) ?_
  refine E_call 82 rfl rfl rfl rfl (v := c17.v) (g_call pc17 rfl rfl rfl Tryd.func9 nm9 bd9) ?_
  refine E_call 83 rfl rfl rfl rfl (v := c18.v) (g_call pc18 rfl rfl rfl Tryd.func10 nm10 bd10) ?_
  refine E_val 84 rfl rfl rfl rfl (v := (.agg #[(.int .u64 c15.l0), (.int .u64 c15.l1), (.int .u64 c15.l2), (.int .u64 c15.l3), (.int .u64 c15.l4), (.int .u64 c18.l0), (.int .u64 c18.l1), (.int .u64 c18.l2), (.int .u64 c18.l3), (.int .u64 c18.l4)])) (g_build rfl (by kernel_rfl)) ?_
  refine E_nil ?_
  refine ⟨?_, fun β6 w hM => ?_⟩
  · skip
    refine M_val rfl ?_
    refine M_val rfl ?_
    refine M_val rfl ?_
    refine M_val rfl ?_
    refine M_val rfl ?_
    refine M_val rfl ?_
    refine M_val rfl ?_
    refine M_val rfl ?_
    refine M_val rfl ?_
    refine M_val rfl ?_
    refine M_val rfl ?_
    refine M_val rfl ?_
    exact M_nil
  show wpList _ _ _ (_ :: _) (putAll _ (_)) _
  refine T_val 85 hn hM rfl rfl rfl (v := (.pointer (some ⟨pa, 0, none⟩))) (g_nilCheck rfl rfl) ?_
  refine T_store 8 hn hM rfl rfl rfl rfl rfl rfl rfl (c' := #[(.int .u64 c15.l0), (.int .u64 c15.l1), (.int .u64 c15.l2), (.int .u64 c15.l3), (.int .u64 c15.l4), (.int .u64 c18.l0), (.int .u64 c18.l1), (.int .u64 c18.l2), (.int .u64 c18.l3), (.int .u64 c18.l4)]) (sets_row sz81 rfl rfl rfl) (fun w hM => ?_)
  replace hM : Mem _ _ w [⟨(β4 11), #[(.int .u64 c9.l0), (.int .u64 c9.l1), (.int .u64 c9.l2), (.int .u64 c9.l3), (.int .u64 c9.l4)], 30, true⟩, ⟨(β3 11), #[(.int .u64 c7.l0), (.int .u64 c7.l1), (.int .u64 c7.l2), (.int .u64 c7.l3), (.int .u64 c7.l4)], 30, true⟩, ⟨b1, #[(.int .u64 c5.l0), (.int .u64 c5.l1), (.int .u64 c5.l2), (.int .u64 c5.l3), (.int .u64 c5.l4)], 30, true⟩, ⟨(β2 4), #[(.int .u64 c3.l0), (.int .u64 c3.l1), (.int .u64 c3.l2), (.int .u64 c3.l3), (.int .u64 c3.l4)], 30, true⟩, ⟨(β2 5), #[(.int .u64 c4.l0), (.int .u64 c4.l1), (.int .u64 c4.l2), (.int .u64 c4.l3), (.int .u64 c4.l4)], 30, true⟩, ⟨(β1 18), #[(.int .u64 c1.l0), (.int .u64 c1.l1), (.int .u64 c1.l2), (.int .u64 c1.l3), (.int .u64 c1.l4)], 30, true⟩, ⟨(β1 19), #[(.int .u64 c2.l0), (.int .u64 c2.l1), (.int .u64 c2.l2), (.int .u64 c2.l3), (.int .u64 c2.l4)], 30, true⟩, ⟨b0, #[(.int .u64 x.l0), (.int .u64 x.l1), (.int .u64 x.l2), (.int .u64 x.l3), (.int .u64 x.l4)], 30, true⟩, ⟨pa, #[(.int .u64 c15.l0), (.int .u64 c15.l1), (.int .u64 c15.l2), (.int .u64 c15.l3), (.int .u64 c15.l4), (.int .u64 c18.l0), (.int .u64 c18.l1), (.int .u64 c18.l2), (.int .u64 c18.l3), (.int .u64 c18.l4)], 81, true⟩, ⟨pb, #[(.int .u64 c11.l0), (.int .u64 c11.l1), (.int .u64 c11.l2), (.int .u64 c11.l3), (.int .u64 c11.l4), (.int .u64 c14.l0), (.int .u64 c14.l1), (.int .u64 c14.l2), (.int .u64 c14.l3), (.int .u64 c14.l4)], 81, true⟩] := hM
  refine T_end ?_
  refine leave (.inr rfl) hn hdf hM rfl Tryd.results37 (vs := []) .nil ?_
  exact ⟨rfl, hM.wroteS [⟨pa, #[(.int .u64 c15.l0), (.int .u64 c15.l1), (.int .u64 c15.l2), (.int .u64 c15.l3), (.int .u64 c15.l4), (.int .u64 c18.l0), (.int .u64 c18.l1), (.int .u64 c18.l2), (.int .u64 c18.l3), (.int .u64 c18.l4)], 81, true⟩, ⟨pb, #[(.int .u64 c11.l0), (.int .u64 c11.l1), (.int .u64 c11.l2), (.int .u64 c11.l3), (.int .u64 c11.l4), (.int .u64 c14.l0), (.int .u64 c14.l1), (.int .u64 c14.l2), (.int .u64 c14.l3), (.int .u64 c14.l4)], 81, true⟩] ((.cons _ (.cons _ (.cons _ (.cons _ (.cons _ (.cons _ (.cons _ (.cons _ (List.Sublist.refl _)))))))))) rfl⟩

end Go.Proofs.YtbonnnakebfniaaDoor
