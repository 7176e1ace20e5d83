/- edsign: the curve that begin makes; keys: contracts. -/
import Derived.Test.YtbonnnakebfniaaDoorHf
namespace Go.Proofs.YtbonnnakebfniaaDoor
open Go Go.RowKit Num Mx

theorem clamp_lt (x : Nat) : clampN x < 2 ^ 255 := Nat.lt_pow_two_of_testBit _ fun i hi => by
  rw [clamp_bit]
  have : decide (i < 255) = false := by simp; omega
  rw [this, Bool.false_and]

/-- What begin hands back. -/
def BeginR (c : Cv) : Prop := ∀ w, Calls Tryd.prog 19 #[] w fun r w' => ∃ b, r = .returned (.pointer (some ⟨b, 0, none⟩)) ∧ w.heap.size ≤ b ∧ w'.heap[b]? = some (.cells c.c 55 (0, 0)) ∧ Below w.heap.size w w'
abbrev Cv.b (c : Cv) : P4 := ⟨c.x, c.y, c.z, c.t⟩

end Go.Proofs.YtbonnnakebfniaaDoor

/- edsign.Key, Point; SpeakMaps. -/
namespace Go.Proofs.YtbonnnakebfniaaDoor
open Go Go.RowKit Num Mx


theorem nm19 : (Tryd.f19.name == "runtime.NumGoroutine") = false := by kernel_rfl
theorem bd19 : Tryd.f19.body.isNone = false := by kernel_rfl
theorem nm20 : (Tryd.f20.name == "runtime.NumGoroutine") = false := by kernel_rfl
theorem bd20 : Tryd.f20.body.isNone = false := by kernel_rfl
theorem nm21 : (Tryd.f21.name == "runtime.NumGoroutine") = false := by kernel_rfl
theorem bd21 : Tryd.f21.body.isNone = false := by kernel_rfl

set_option maxHeartbeats 1000000 in
set_option maxRecDepth 100000 in
theorem key_E (g0 g1 f : Nat → Int) {x : Nat} (hx : ∀ i, i < 32 → sumOf g0 g1 f i = dgF 8 x i) {c : Cv} {fe : F} {fb : E4} (hbeg : BeginR c) (he : IsL c.e fe) (hp : IsP c.b fb) (w0 : World) (hg0 : w0.heap[0]? = some (.cells (arr .u64 8 g0) 67 (0, 0))) (hg1 : w0.heap[1]? = some (.cells (arr .u64 80 g1) 101 (0, 0))) :
    Calls Tryd.prog 6 #[.agg (arr .u8 32 f)] w0 fun e w' => e = .returned (.agg (arr .u8 32 (dgF 8 (encN (mulF fe (clampN x).testBit fb 256))))) ∧ Below w0.heap.size w0 w' := by
  obtain ⟨g, hg, pg⟩ := multP_E (clampN x) (Nat.lt_of_lt_of_le (clamp_lt x) (Nat.pow_le_pow_right (by decide) (by decide))) he hp
  refine enter Tryd.func6 rfl Tryd.ntmps6 (Nat.le_of_ble_eq_true rfl) fun A hn hdf => ?_
  have hM : Mem w0 [] w0 [⟨0, (arr .u64 8 g0), 67, false⟩, ⟨1, (arr .u64 80 g1), 101, false⟩] := Mem.read2 w0 hg0 hg1 (by decide)
  replace hM := hM
  refine wp_seq ?_
  refine wp_region_lit ?_
  refine T_box 1 hn hM rfl rfl rfl rfl rfl (arr .u8 32 f) rfl (fun b0 w hM => ?_)
  refine T_alloc 2 hn hM rfl rfl rfl rfl Tryd.zeroValue22 (arr .u8 32 (fun _ => 0)) (by rfl) (fun b1 w hM => ?_)
  refine T_nil ?_
  refine wp_seq ?_
  refine wp_region_lit ?_
  refine T_callN 4 hn hM rfl rfl rfl rfl rfl Tryd.func19 nm19 bd19 (hbeg w) (fun b2 w hM => ?_)
  refine T_val 3 hn hM rfl rfl rfl (v := (.pointer (some ⟨b2, 0, none⟩))) (g_assign rfl rfl) ?_
  refine T_nil ?_
  refine wp_seq ?_
  refine R_any [.val, .val, .val, .val, .val, .val, .val, .val] 8 [] [] hn hM rfl (by kernel_rfl) (by kernel_rfl) rfl rfl rfl ?_
  refine E_val 5 rfl rfl rfl rfl (v := (.pointer (some ⟨b2, 0, none⟩))) (g_move rfl rfl) ?_
  refine E_val 6 rfl rfl rfl rfl (v := (.agg (arr .u8 32 f))) (g_loadAll 2 rfl rfl rfl Tryd.underlying22 rfl (by rw [arr_len]; exact sz22)) ?_
  refine E_call 7 rfl rfl rfl rfl (v := (.agg (secA (dgF 8 (clampN x)) (strOf 32 fun i => sumOf g0 g1 f (32 + i))))) (g_callM (fun w hM => open_E g0 g1 f hx w (hM.get 3 rfl) (hM.get 4 rfl)) rfl rfl rfl Tryd.func21 nm21 bd21) ?_
  refine E_val 8 rfl rfl rfl rfl (v := (.agg (arr .u8 32 (dgF 8 (clampN x))))) (g_fieldV rfl rfl Tryd.underlying52 rfl Tryd.isAgg22 Tryd.sizeOf22 (secA_ext _ _)) ?_
  refine E_val 9 rfl rfl rfl rfl (v := (.pointer (some ⟨b2, 0, none⟩))) (g_move rfl rfl) ?_
  refine E_val 10 rfl rfl rfl rfl (v := (.pointer (some ⟨b2, 0, none⟩))) (g_nilCheck rfl rfl) ?_
  refine E_val 11 rfl rfl rfl rfl (v := (.pointer (some ⟨b2, 10, none⟩))) (g_fieldAddr rfl rfl Tryd.underlying55 rfl Tryd.sizeOf49 10 rfl) ?_
  refine E_val 12 rfl rfl rfl rfl (v := (.agg #[(.int .u64 c.x.l0), (.int .u64 c.x.l1), (.int .u64 c.x.l2), (.int .u64 c.x.l3), (.int .u64 c.x.l4), (.int .u64 c.y.l0), (.int .u64 c.y.l1), (.int .u64 c.y.l2), (.int .u64 c.y.l3), (.int .u64 c.y.l4), (.int .u64 c.z.l0), (.int .u64 c.z.l1), (.int .u64 c.z.l2), (.int .u64 c.z.l3), (.int .u64 c.z.l4), (.int .u64 c.t.l0), (.int .u64 c.t.l1), (.int .u64 c.t.l2), (.int .u64 c.t.l3), (.int .u64 c.t.l4)])) (g_loadRow 0 [(.int .u64 c.x.l0), (.int .u64 c.x.l1), (.int .u64 c.x.l2), (.int .u64 c.x.l3), (.int .u64 c.x.l4), (.int .u64 c.y.l0), (.int .u64 c.y.l1), (.int .u64 c.y.l2), (.int .u64 c.y.l3), (.int .u64 c.y.l4), (.int .u64 c.z.l0), (.int .u64 c.z.l1), (.int .u64 c.z.l2), (.int .u64 c.z.l3), (.int .u64 c.z.l4), (.int .u64 c.t.l0), (.int .u64 c.t.l1), (.int .u64 c.t.l2), (.int .u64 c.t.l3), (.int .u64 c.t.l4)] rfl rfl rfl Tryd.underlying49 rfl sz49 rfl) ?_
  refine E_nil ?_
  refine ⟨?_, fun β1 w hM => ?_⟩
  · skip
    refine M_val rfl ?_
    refine M_val rfl ?_
    refine M_val rfl ?_
    refine M_val rfl ?_
    refine M_val rfl ?_
    refine M_val rfl ?_
    refine M_val rfl ?_
    refine M_val rfl ?_
    exact M_nil
  show wpList _ _ _ (_ :: _) (putAll _ (_)) _
  refine T_call 13 hn hM rfl rfl rfl (v := g.v) (g_callM (fun w hM => pg w _ (hM.get 0 rfl)) rfl rfl rfl Tryd.func20 nm20 bd20) (fun w hM => ?_)
  refine T_call 14 hn hM rfl rfl rfl (v := (.agg (arr .u8 32 (dgF 8 (encN (mulF fe (clampN x).testBit fb 256)))))) (g_call (bytesP_E hg) rfl rfl rfl Tryd.func22 nm22 bd22) (fun w hM => ?_)
  refine T_store 1 hn hM rfl rfl rfl rfl rfl rfl rfl (c' := (arr .u8 32 (dgF 8 (encN (mulF fe (clampN x).testBit fb 256))))) (sets_allA sz22 arr_len) (fun w hM => ?_)
  replace hM : Mem _ _ w [⟨b2, #[(.int .u64 c.d.l0), (.int .u64 c.d.l1), (.int .u64 c.d.l2), (.int .u64 c.d.l3), (.int .u64 c.d.l4), (.int .u64 c.e.l0), (.int .u64 c.e.l1), (.int .u64 c.e.l2), (.int .u64 c.e.l3), (.int .u64 c.e.l4), (.int .u64 c.x.l0), (.int .u64 c.x.l1), (.int .u64 c.x.l2), (.int .u64 c.x.l3), (.int .u64 c.x.l4), (.int .u64 c.y.l0), (.int .u64 c.y.l1), (.int .u64 c.y.l2), (.int .u64 c.y.l3), (.int .u64 c.y.l4), (.int .u64 c.z.l0), (.int .u64 c.z.l1), (.int .u64 c.z.l2), (.int .u64 c.z.l3), (.int .u64 c.z.l4), (.int .u64 c.t.l0), (.int .u64 c.t.l1), (.int .u64 c.t.l2), (.int .u64 c.t.l3), (.int .u64 c.t.l4)], 55, true⟩, ⟨b1, (arr .u8 32 (dgF 8 (encN (mulF fe (clampN x).testBit fb 256)))), 22, true⟩, ⟨b0, (arr .u8 32 f), 22, true⟩, ⟨0, (arr .u64 8 g0), 67, false⟩, ⟨1, (arr .u64 80 g1), 101, false⟩] := hM
  refine T_nil ?_
  refine wp_ret ?_
  refine leave (.inl rfl) hn hdf hM rfl Tryd.results6 (vs := [(.agg (arr .u8 32 (dgF 8 (encN (mulF fe (clampN x).testBit fb 256)))))]) (.row 1 rfl rfl Tryd.underlying22 rfl (by rw [arr_len]; exact sz22) .nil) ?_
  exact ⟨rfl, hM.done⟩

theorem nm29 : (Tryd.f29.name == "runtime.NumGoroutine") = false := by kernel_rfl
theorem bd29 : Tryd.f29.body.isNone = false := by kernel_rfl

set_option maxHeartbeats 1000000 in
set_option maxRecDepth 100000 in
theorem point_E {s : Nat} {c : Cv} {q : P4} (hbeg : BeginR c) (hrd : ∀ (w0 : World) (bc : Nat), w0.heap[bc]? = some (.cells c.c 55 (0, 0)) → Calls Tryd.prog 29 #[.pointer (some ⟨bc, 0, none⟩), .agg (arr .u8 32 (dgF 8 s))] w0 fun e w' => e = .returned (.tuple #[q.v, .bool true]) ∧ Below w0.heap.size w0 w') : Pure 14 #[.agg (arr .u8 32 (dgF 8 s))] (.bool true) := fun w0 => by
  refine enter Tryd.func14 rfl Tryd.ntmps14 (Nat.le_of_ble_eq_true rfl) fun A hn hdf => ?_
  have hM : Mem w0 [] w0 [] := Mem.start w0
  replace hM := hM
  refine wp_seq ?_
  refine wp_region_lit ?_
  refine T_box 1 hn hM rfl rfl rfl rfl rfl (arr .u8 32 (dgF 8 s)) rfl (fun b0 w hM => ?_)
  refine T_val 2 hn hM rfl rfl rfl (v := (.bool false)) (g_assign rfl rfl) ?_
  refine T_nil ?_
  refine wp_seq ?_
  refine wp_mono (Q := fun e a w => e = Exit.normal ∧ ∃ A : Act, A.tmps.size = 12 ∧ A.defers = [] ∧ a = putAll A [(4, (.bool true))] ∧ Mem w0 [] w []) ?_ ?_
  · refine any_start (by kernel_rfl) hM (fun w hM => ?_)
    refine any_3 (i1 := 0) (i2 := 1) (i3 := 6) (by kernel_rfl) ?_ ?_ ?_
    · skip
      refine U_op rfl ?_
      refine T_callN 6 hn hM rfl rfl rfl rfl rfl Tryd.func19 nm19 bd19 (hbeg w) (fun b1 w hM => ?_)
      refine T_nil ?_
      refine any_2 (i1 := 1) (i2 := 6) (by kernel_rfl) ?_ ?_
      · skip
        refine U_op rfl ?_
        refine T_val 7 hn hM rfl rfl rfl (v := (.agg (arr .u8 32 (dgF 8 s)))) (g_loadAll 1 rfl rfl rfl Tryd.underlying22 rfl (by rw [arr_len]; exact sz22)) ?_
        refine T_nil ?_
        refine any_2 (i1 := 2) (i2 := 6) (by kernel_rfl) ?_ ?_
        · skip
          refine U_op rfl ?_
          refine T_call 8 hn hM rfl rfl rfl (v := (.tuple #[q.v, (.bool true)])) (g_callM (fun w hM => hrd w _ (hM.get 0 rfl)) rfl rfl rfl Tryd.func29 nm29 bd29) (fun w hM => ?_)
          refine T_nil ?_
          refine any_2 (i1 := 3) (i2 := 6) (by kernel_rfl) ?_ ?_
          · skip
            refine U_op rfl ?_
            refine T_val 5 hn hM rfl rfl rfl (v := (.tuple #[q.v, (.bool true)])) (g_move rfl rfl) ?_
            refine T_nil ?_
            refine any_3 (i1 := 4) (i2 := 5) (i3 := 6) (by kernel_rfl) ?_ ?_ ?_
            · skip
              refine U_op rfl ?_
              refine T_val 9 hn hM rfl rfl rfl (v := q.v) (g_extract rfl rfl rfl) ?_
              refine T_nil ?_
              refine any_2 (i1 := 5) (i2 := 6) (by kernel_rfl) ?_ ?_
              · skip
                refine U_op rfl ?_
                refine T_val 10 hn hM rfl rfl rfl (v := (.bool true)) (g_extract rfl rfl rfl) ?_
                refine T_nil ?_
                refine any_1 (i1 := 6) (by kernel_rfl) ?_
                refine U_op rfl ?_
                refine T_alloc 3 hn hM rfl rfl rfl rfl Tryd.zeroValue49 #[(.int .u64 0), (.int .u64 0), (.int .u64 0), (.int .u64 0), (.int .u64 0), (.int .u64 0), (.int .u64 0), (.int .u64 0), (.int .u64 0), (.int .u64 0), (.int .u64 0), (.int .u64 0), (.int .u64 0), (.int .u64 0), (.int .u64 0), (.int .u64 0), (.int .u64 0), (.int .u64 0), (.int .u64 0), (.int .u64 0)] rfl (fun b2 w hM => ?_)
                refine T_nil ?_
                refine any_1 (i1 := 7) (by kernel_rfl) ?_
                refine U_op rfl ?_
                refine T_store 0 hn hM rfl rfl rfl rfl rfl rfl rfl (c' := #[(.int .u64 q.x.l0), (.int .u64 q.x.l1), (.int .u64 q.x.l2), (.int .u64 q.x.l3), (.int .u64 q.x.l4), (.int .u64 q.y.l0), (.int .u64 q.y.l1), (.int .u64 q.y.l2), (.int .u64 q.y.l3), (.int .u64 q.y.l4), (.int .u64 q.z.l0), (.int .u64 q.z.l1), (.int .u64 q.z.l2), (.int .u64 q.z.l3), (.int .u64 q.z.l4), (.int .u64 q.t.l0), (.int .u64 q.t.l1), (.int .u64 q.t.l2), (.int .u64 q.t.l3), (.int .u64 q.t.l4)]) (sets_row sz49 rfl rfl rfl) (fun w hM => ?_)
                replace hM : Mem _ _ w [⟨b2, #[(.int .u64 q.x.l0), (.int .u64 q.x.l1), (.int .u64 q.x.l2), (.int .u64 q.x.l3), (.int .u64 q.x.l4), (.int .u64 q.y.l0), (.int .u64 q.y.l1), (.int .u64 q.y.l2), (.int .u64 q.y.l3), (.int .u64 q.y.l4), (.int .u64 q.z.l0), (.int .u64 q.z.l1), (.int .u64 q.z.l2), (.int .u64 q.z.l3), (.int .u64 q.z.l4), (.int .u64 q.t.l0), (.int .u64 q.t.l1), (.int .u64 q.t.l2), (.int .u64 q.t.l3), (.int .u64 q.t.l4)], 49, true⟩, ⟨b1, #[(.int .u64 c.d.l0), (.int .u64 c.d.l1), (.int .u64 c.d.l2), (.int .u64 c.d.l3), (.int .u64 c.d.l4), (.int .u64 c.e.l0), (.int .u64 c.e.l1), (.int .u64 c.e.l2), (.int .u64 c.e.l3), (.int .u64 c.e.l4), (.int .u64 c.x.l0), (.int .u64 c.x.l1), (.int .u64 c.x.l2), (.int .u64 c.x.l3), (.int .u64 c.x.l4), (.int .u64 c.y.l0), (.int .u64 c.y.l1), (.int .u64 c.y.l2), (.int .u64 c.y.l3), (.int .u64 c.y.l4), (.int .u64 c.z.l0), (.int .u64 c.z.l1), (.int .u64 c.z.l2), (.int .u64 c.z.l3), (.int .u64 c.z.l4), (.int .u64 c.t.l0), (.int .u64 c.t.l1), (.int .u64 c.t.l2), (.int .u64 c.t.l3), (.int .u64 c.t.l4)], 55, true⟩, ⟨b0, (arr .u8 32 (dgF 8 s)), 22, true⟩] := hM
                refine T_nil ?_
                refine any_1 (i1 := 8) (by kernel_rfl) ?_
                refine U_op rfl ?_
                refine T_val 4 hn hM rfl rfl rfl (v := (.bool true)) (g_assign rfl rfl) ?_
                refine T_nil ?_
                refine any_done (by kernel_rfl) ?_
                replace hM := hM.sub [] ((.cons _ (.cons _ (.cons _ (List.Sublist.refl _)))))
                exact ⟨rfl, frame_ex [(4, (.bool true))] hn hdf rfl rfl ⟨rfl, trivial⟩ hM⟩
              · skip
                refine U_op rfl ?_
                refine T_alloc 3 hn hM rfl rfl rfl rfl Tryd.zeroValue49 #[(.int .u64 0), (.int .u64 0), (.int .u64 0), (.int .u64 0), (.int .u64 0), (.int .u64 0), (.int .u64 0), (.int .u64 0), (.int .u64 0), (.int .u64 0), (.int .u64 0), (.int .u64 0), (.int .u64 0), (.int .u64 0), (.int .u64 0), (.int .u64 0), (.int .u64 0), (.int .u64 0), (.int .u64 0), (.int .u64 0)] rfl (fun b3 w hM => ?_)
                refine T_nil ?_
                refine any_2 (i1 := 5) (i2 := 7) (by kernel_rfl) ?_ ?_
                · skip
                  refine U_op rfl ?_
                  refine T_val 10 hn hM rfl rfl rfl (v := (.bool true)) (g_extract rfl rfl rfl) ?_
                  refine T_nil ?_
                  refine any_1 (i1 := 7) (by kernel_rfl) ?_
                  refine U_op rfl ?_
                  refine T_store 0 hn hM rfl rfl rfl rfl rfl rfl rfl (c' := #[(.int .u64 q.x.l0), (.int .u64 q.x.l1), (.int .u64 q.x.l2), (.int .u64 q.x.l3), (.int .u64 q.x.l4), (.int .u64 q.y.l0), (.int .u64 q.y.l1), (.int .u64 q.y.l2), (.int .u64 q.y.l3), (.int .u64 q.y.l4), (.int .u64 q.z.l0), (.int .u64 q.z.l1), (.int .u64 q.z.l2), (.int .u64 q.z.l3), (.int .u64 q.z.l4), (.int .u64 q.t.l0), (.int .u64 q.t.l1), (.int .u64 q.t.l2), (.int .u64 q.t.l3), (.int .u64 q.t.l4)]) (sets_row sz49 rfl rfl rfl) (fun w hM => ?_)
                  replace hM : Mem _ _ w [⟨b3, #[(.int .u64 q.x.l0), (.int .u64 q.x.l1), (.int .u64 q.x.l2), (.int .u64 q.x.l3), (.int .u64 q.x.l4), (.int .u64 q.y.l0), (.int .u64 q.y.l1), (.int .u64 q.y.l2), (.int .u64 q.y.l3), (.int .u64 q.y.l4), (.int .u64 q.z.l0), (.int .u64 q.z.l1), (.int .u64 q.z.l2), (.int .u64 q.z.l3), (.int .u64 q.z.l4), (.int .u64 q.t.l0), (.int .u64 q.t.l1), (.int .u64 q.t.l2), (.int .u64 q.t.l3), (.int .u64 q.t.l4)], 49, true⟩, ⟨b1, #[(.int .u64 c.d.l0), (.int .u64 c.d.l1), (.int .u64 c.d.l2), (.int .u64 c.d.l3), (.int .u64 c.d.l4), (.int .u64 c.e.l0), (.int .u64 c.e.l1), (.int .u64 c.e.l2), (.int .u64 c.e.l3), (.int .u64 c.e.l4), (.int .u64 c.x.l0), (.int .u64 c.x.l1), (.int .u64 c.x.l2), (.int .u64 c.x.l3), (.int .u64 c.x.l4), (.int .u64 c.y.l0), (.int .u64 c.y.l1), (.int .u64 c.y.l2), (.int .u64 c.y.l3), (.int .u64 c.y.l4), (.int .u64 c.z.l0), (.int .u64 c.z.l1), (.int .u64 c.z.l2), (.int .u64 c.z.l3), (.int .u64 c.z.l4), (.int .u64 c.t.l0), (.int .u64 c.t.l1), (.int .u64 c.t.l2), (.int .u64 c.t.l3), (.int .u64 c.t.l4)], 55, true⟩, ⟨b0, (arr .u8 32 (dgF 8 s)), 22, true⟩] := hM
                  refine T_nil ?_
                  refine any_1 (i1 := 8) (by kernel_rfl) ?_
                  refine U_op rfl ?_
                  refine T_val 4 hn hM rfl rfl rfl (v := (.bool true)) (g_assign rfl rfl) ?_
                  refine T_nil ?_
                  refine any_done (by kernel_rfl) ?_
                  replace hM := hM.sub [] ((.cons _ (.cons _ (.cons _ (List.Sublist.refl _)))))
                  exact ⟨rfl, frame_ex [(4, (.bool true))] hn hdf rfl rfl ⟨rfl, trivial⟩ hM⟩
                · skip
                  refine U_op rfl ?_
                  refine T_store 0 hn hM rfl rfl rfl rfl rfl rfl rfl (c' := #[(.int .u64 q.x.l0), (.int .u64 q.x.l1), (.int .u64 q.x.l2), (.int .u64 q.x.l3), (.int .u64 q.x.l4), (.int .u64 q.y.l0), (.int .u64 q.y.l1), (.int .u64 q.y.l2), (.int .u64 q.y.l3), (.int .u64 q.y.l4), (.int .u64 q.z.l0), (.int .u64 q.z.l1), (.int .u64 q.z.l2), (.int .u64 q.z.l3), (.int .u64 q.z.l4), (.int .u64 q.t.l0), (.int .u64 q.t.l1), (.int .u64 q.t.l2), (.int .u64 q.t.l3), (.int .u64 q.t.l4)]) (sets_row sz49 rfl rfl rfl) (fun w hM => ?_)
                  replace hM : Mem _ _ w [⟨b3, #[(.int .u64 q.x.l0), (.int .u64 q.x.l1), (.int .u64 q.x.l2), (.int .u64 q.x.l3), (.int .u64 q.x.l4), (.int .u64 q.y.l0), (.int .u64 q.y.l1), (.int .u64 q.y.l2), (.int .u64 q.y.l3), (.int .u64 q.y.l4), (.int .u64 q.z.l0), (.int .u64 q.z.l1), (.int .u64 q.z.l2), (.int .u64 q.z.l3), (.int .u64 q.z.l4), (.int .u64 q.t.l0), (.int .u64 q.t.l1), (.int .u64 q.t.l2), (.int .u64 q.t.l3), (.int .u64 q.t.l4)], 49, true⟩, ⟨b1, #[(.int .u64 c.d.l0), (.int .u64 c.d.l1), (.int .u64 c.d.l2), (.int .u64 c.d.l3), (.int .u64 c.d.l4), (.int .u64 c.e.l0), (.int .u64 c.e.l1), (.int .u64 c.e.l2), (.int .u64 c.e.l3), (.int .u64 c.e.l4), (.int .u64 c.x.l0), (.int .u64 c.x.l1), (.int .u64 c.x.l2), (.int .u64 c.x.l3), (.int .u64 c.x.l4), (.int .u64 c.y.l0), (.int .u64 c.y.l1), (.int .u64 c.y.l2), (.int .u64 c.y.l3), (.int .u64 c.y.l4), (.int .u64 c.z.l0), (.int .u64 c.z.l1), (.int .u64 c.z.l2), (.int .u64 c.z.l3), (.int .u64 c.z.l4), (.int .u64 c.t.l0), (.int .u64 c.t.l1), (.int .u64 c.t.l2), (.int .u64 c.t.l3), (.int .u64 c.t.l4)], 55, true⟩, ⟨b0, (arr .u8 32 (dgF 8 s)), 22, true⟩] := hM
                  refine T_nil ?_
                  refine any_1 (i1 := 5) (by kernel_rfl) ?_
                  refine U_op rfl ?_
                  refine T_val 10 hn hM rfl rfl rfl (v := (.bool true)) (g_extract rfl rfl rfl) ?_
                  refine T_nil ?_
                  refine any_1 (i1 := 8) (by kernel_rfl) ?_
                  refine U_op rfl ?_
                  refine T_val 4 hn hM rfl rfl rfl (v := (.bool true)) (g_assign rfl rfl) ?_
                  refine T_nil ?_
                  refine any_done (by kernel_rfl) ?_
                  replace hM := hM.sub [] ((.cons _ (.cons _ (.cons _ (List.Sublist.refl _)))))
                  exact ⟨rfl, frame_ex [(4, (.bool true))] hn hdf rfl rfl ⟨rfl, trivial⟩ hM⟩
            · skip
              refine U_op rfl ?_
              refine T_val 10 hn hM rfl rfl rfl (v := (.bool true)) (g_extract rfl rfl rfl) ?_
              refine T_nil ?_
              refine any_2 (i1 := 4) (i2 := 6) (by kernel_rfl) ?_ ?_
              · skip
                refine U_op rfl ?_
                refine T_val 9 hn hM rfl rfl rfl (v := q.v) (g_extract rfl rfl rfl) ?_
                refine T_nil ?_
                refine any_1 (i1 := 6) (by kernel_rfl) ?_
                refine U_op rfl ?_
                refine T_alloc 3 hn hM rfl rfl rfl rfl Tryd.zeroValue49 #[(.int .u64 0), (.int .u64 0), (.int .u64 0), (.int .u64 0), (.int .u64 0), (.int .u64 0), (.int .u64 0), (.int .u64 0), (.int .u64 0), (.int .u64 0), (.int .u64 0), (.int .u64 0), (.int .u64 0), (.int .u64 0), (.int .u64 0), (.int .u64 0), (.int .u64 0), (.int .u64 0), (.int .u64 0), (.int .u64 0)] rfl (fun b4 w hM => ?_)
                refine T_nil ?_
                refine any_1 (i1 := 7) (by kernel_rfl) ?_
                refine U_op rfl ?_
                refine T_store 0 hn hM rfl rfl rfl rfl rfl rfl rfl (c' := #[(.int .u64 q.x.l0), (.int .u64 q.x.l1), (.int .u64 q.x.l2), (.int .u64 q.x.l3), (.int .u64 q.x.l4), (.int .u64 q.y.l0), (.int .u64 q.y.l1), (.int .u64 q.y.l2), (.int .u64 q.y.l3), (.int .u64 q.y.l4), (.int .u64 q.z.l0), (.int .u64 q.z.l1), (.int .u64 q.z.l2), (.int .u64 q.z.l3), (.int .u64 q.z.l4), (.int .u64 q.t.l0), (.int .u64 q.t.l1), (.int .u64 q.t.l2), (.int .u64 q.t.l3), (.int .u64 q.t.l4)]) (sets_row sz49 rfl rfl rfl) (fun w hM => ?_)
                replace hM : Mem _ _ w [⟨b4, #[(.int .u64 q.x.l0), (.int .u64 q.x.l1), (.int .u64 q.x.l2), (.int .u64 q.x.l3), (.int .u64 q.x.l4), (.int .u64 q.y.l0), (.int .u64 q.y.l1), (.int .u64 q.y.l2), (.int .u64 q.y.l3), (.int .u64 q.y.l4), (.int .u64 q.z.l0), (.int .u64 q.z.l1), (.int .u64 q.z.l2), (.int .u64 q.z.l3), (.int .u64 q.z.l4), (.int .u64 q.t.l0), (.int .u64 q.t.l1), (.int .u64 q.t.l2), (.int .u64 q.t.l3), (.int .u64 q.t.l4)], 49, true⟩, ⟨b1, #[(.int .u64 c.d.l0), (.int .u64 c.d.l1), (.int .u64 c.d.l2), (.int .u64 c.d.l3), (.int .u64 c.d.l4), (.int .u64 c.e.l0), (.int .u64 c.e.l1), (.int .u64 c.e.l2), (.int .u64 c.e.l3), (.int .u64 c.e.l4), (.int .u64 c.x.l0), (.int .u64 c.x.l1), (.int .u64 c.x.l2), (.int .u64 c.x.l3), (.int .u64 c.x.l4), (.int .u64 c.y.l0), (.int .u64 c.y.l1), (.int .u64 c.y.l2), (.int .u64 c.y.l3), (.int .u64 c.y.l4), (.int .u64 c.z.l0), (.int .u64 c.z.l1), (.int .u64 c.z.l2), (.int .u64 c.z.l3), (.int .u64 c.z.l4), (.int .u64 c.t.l0), (.int .u64 c.t.l1), (.int .u64 c.t.l2), (.int .u64 c.t.l3), (.int .u64 c.t.l4)], 55, true⟩, ⟨b0, (arr .u8 32 (dgF 8 s)), 22, true⟩] := hM
                refine T_nil ?_
                refine any_1 (i1 := 8) (by kernel_rfl) ?_
                refine U_op rfl ?_
                refine T_val 4 hn hM rfl rfl rfl (v := (.bool true)) (g_assign rfl rfl) ?_
                refine T_nil ?_
                refine any_done (by kernel_rfl) ?_
                replace hM := hM.sub [] ((.cons _ (.cons _ (.cons _ (List.Sublist.refl _)))))
                exact ⟨rfl, frame_ex [(4, (.bool true))] hn hdf rfl rfl ⟨rfl, trivial⟩ hM⟩
              · skip
                refine U_op rfl ?_
                refine T_alloc 3 hn hM rfl rfl rfl rfl Tryd.zeroValue49 #[(.int .u64 0), (.int .u64 0), (.int .u64 0), (.int .u64 0), (.int .u64 0), (.int .u64 0), (.int .u64 0), (.int .u64 0), (.int .u64 0), (.int .u64 0), (.int .u64 0), (.int .u64 0), (.int .u64 0), (.int .u64 0), (.int .u64 0), (.int .u64 0), (.int .u64 0), (.int .u64 0), (.int .u64 0), (.int .u64 0)] rfl (fun b5 w hM => ?_)
                refine T_nil ?_
                refine any_1 (i1 := 4) (by kernel_rfl) ?_
                refine U_op rfl ?_
                refine T_val 9 hn hM rfl rfl rfl (v := q.v) (g_extract rfl rfl rfl) ?_
                refine T_nil ?_
                refine any_1 (i1 := 7) (by kernel_rfl) ?_
                refine U_op rfl ?_
                refine T_store 0 hn hM rfl rfl rfl rfl rfl rfl rfl (c' := #[(.int .u64 q.x.l0), (.int .u64 q.x.l1), (.int .u64 q.x.l2), (.int .u64 q.x.l3), (.int .u64 q.x.l4), (.int .u64 q.y.l0), (.int .u64 q.y.l1), (.int .u64 q.y.l2), (.int .u64 q.y.l3), (.int .u64 q.y.l4), (.int .u64 q.z.l0), (.int .u64 q.z.l1), (.int .u64 q.z.l2), (.int .u64 q.z.l3), (.int .u64 q.z.l4), (.int .u64 q.t.l0), (.int .u64 q.t.l1), (.int .u64 q.t.l2), (.int .u64 q.t.l3), (.int .u64 q.t.l4)]) (sets_row sz49 rfl rfl rfl) (fun w hM => ?_)
                replace hM : Mem _ _ w [⟨b5, #[(.int .u64 q.x.l0), (.int .u64 q.x.l1), (.int .u64 q.x.l2), (.int .u64 q.x.l3), (.int .u64 q.x.l4), (.int .u64 q.y.l0), (.int .u64 q.y.l1), (.int .u64 q.y.l2), (.int .u64 q.y.l3), (.int .u64 q.y.l4), (.int .u64 q.z.l0), (.int .u64 q.z.l1), (.int .u64 q.z.l2), (.int .u64 q.z.l3), (.int .u64 q.z.l4), (.int .u64 q.t.l0), (.int .u64 q.t.l1), (.int .u64 q.t.l2), (.int .u64 q.t.l3), (.int .u64 q.t.l4)], 49, true⟩, ⟨b1, #[(.int .u64 c.d.l0), (.int .u64 c.d.l1), (.int .u64 c.d.l2), (.int .u64 c.d.l3), (.int .u64 c.d.l4), (.int .u64 c.e.l0), (.int .u64 c.e.l1), (.int .u64 c.e.l2), (.int .u64 c.e.l3), (.int .u64 c.e.l4), (.int .u64 c.x.l0), (.int .u64 c.x.l1), (.int .u64 c.x.l2), (.int .u64 c.x.l3), (.int .u64 c.x.l4), (.int .u64 c.y.l0), (.int .u64 c.y.l1), (.int .u64 c.y.l2), (.int .u64 c.y.l3), (.int .u64 c.y.l4), (.int .u64 c.z.l0), (.int .u64 c.z.l1), (.int .u64 c.z.l2), (.int .u64 c.z.l3), (.int .u64 c.z.l4), (.int .u64 c.t.l0), (.int .u64 c.t.l1), (.int .u64 c.t.l2), (.int .u64 c.t.l3), (.int .u64 c.t.l4)], 55, true⟩, ⟨b0, (arr .u8 32 (dgF 8 s)), 22, true⟩] := hM
                refine T_nil ?_
                refine any_1 (i1 := 8) (by kernel_rfl) ?_
                refine U_op rfl ?_
                refine T_val 4 hn hM rfl rfl rfl (v := (.bool true)) (g_assign rfl rfl) ?_
                refine T_nil ?_
                refine any_done (by kernel_rfl) ?_
                replace hM := hM.sub [] ((.cons _ (.cons _ (.cons _ (List.Sublist.refl _)))))
                exact ⟨rfl, frame_ex [(4, (.bool true))] hn hdf rfl rfl ⟨rfl, trivial⟩ hM⟩
            · skip
              refine U_op rfl ?_
              refine T_alloc 3 hn hM rfl rfl rfl rfl Tryd.zeroValue49 #[(.int .u64 0), (.int .u64 0), (.int .u64 0), (.int .u64 0), (.int .u64 0), (.int .u64 0), (.int .u64 0), (.int .u64 0), (.int .u64 0), (.int .u64 0), (.int .u64 0), (.int .u64 0), (.int .u64 0), (.int .u64 0), (.int .u64 0), (.int .u64 0), (.int .u64 0), (.int .u64 0), (.int .u64 0), (.int .u64 0)] rfl (fun b6 w hM => ?_)
              refine T_nil ?_
              refine any_2 (i1 := 4) (i2 := 5) (by kernel_rfl) ?_ ?_
              · skip
                refine U_op rfl ?_
                refine T_val 9 hn hM rfl rfl rfl (v := q.v) (g_extract rfl rfl rfl) ?_
                refine T_nil ?_
                refine any_2 (i1 := 5) (i2 := 7) (by kernel_rfl) ?_ ?_
                · skip
                  refine U_op rfl ?_
                  refine T_val 10 hn hM rfl rfl rfl (v := (.bool true)) (g_extract rfl rfl rfl) ?_
                  refine T_nil ?_
                  refine any_1 (i1 := 7) (by kernel_rfl) ?_
                  refine U_op rfl ?_
                  refine T_store 0 hn hM rfl rfl rfl rfl rfl rfl rfl (c' := #[(.int .u64 q.x.l0), (.int .u64 q.x.l1), (.int .u64 q.x.l2), (.int .u64 q.x.l3), (.int .u64 q.x.l4), (.int .u64 q.y.l0), (.int .u64 q.y.l1), (.int .u64 q.y.l2), (.int .u64 q.y.l3), (.int .u64 q.y.l4), (.int .u64 q.z.l0), (.int .u64 q.z.l1), (.int .u64 q.z.l2), (.int .u64 q.z.l3), (.int .u64 q.z.l4), (.int .u64 q.t.l0), (.int .u64 q.t.l1), (.int .u64 q.t.l2), (.int .u64 q.t.l3), (.int .u64 q.t.l4)]) (sets_row sz49 rfl rfl rfl) (fun w hM => ?_)
                  replace hM : Mem _ _ w [⟨b6, #[(.int .u64 q.x.l0), (.int .u64 q.x.l1), (.int .u64 q.x.l2), (.int .u64 q.x.l3), (.int .u64 q.x.l4), (.int .u64 q.y.l0), (.int .u64 q.y.l1), (.int .u64 q.y.l2), (.int .u64 q.y.l3), (.int .u64 q.y.l4), (.int .u64 q.z.l0), (.int .u64 q.z.l1), (.int .u64 q.z.l2), (.int .u64 q.z.l3), (.int .u64 q.z.l4), (.int .u64 q.t.l0), (.int .u64 q.t.l1), (.int .u64 q.t.l2), (.int .u64 q.t.l3), (.int .u64 q.t.l4)], 49, true⟩, ⟨b1, #[(.int .u64 c.d.l0), (.int .u64 c.d.l1), (.int .u64 c.d.l2), (.int .u64 c.d.l3), (.int .u64 c.d.l4), (.int .u64 c.e.l0), (.int .u64 c.e.l1), (.int .u64 c.e.l2), (.int .u64 c.e.l3), (.int .u64 c.e.l4), (.int .u64 c.x.l0), (.int .u64 c.x.l1), (.int .u64 c.x.l2), (.int .u64 c.x.l3), (.int .u64 c.x.l4), (.int .u64 c.y.l0), (.int .u64 c.y.l1), (.int .u64 c.y.l2), (.int .u64 c.y.l3), (.int .u64 c.y.l4), (.int .u64 c.z.l0), (.int .u64 c.z.l1), (.int .u64 c.z.l2), (.int .u64 c.z.l3), (.int .u64 c.z.l4), (.int .u64 c.t.l0), (.int .u64 c.t.l1), (.int .u64 c.t.l2), (.int .u64 c.t.l3), (.int .u64 c.t.l4)], 55, true⟩, ⟨b0, (arr .u8 32 (dgF 8 s)), 22, true⟩] := hM
                  refine T_nil ?_
                  refine any_1 (i1 := 8) (by kernel_rfl) ?_
                  refine U_op rfl ?_
                  refine T_val 4 hn hM rfl rfl rfl (v := (.bool true)) (g_assign rfl rfl) ?_
                  refine T_nil ?_
                  refine any_done (by kernel_rfl) ?_
                  replace hM := hM.sub [] ((.cons _ (.cons _ (.cons _ (List.Sublist.refl _)))))
                  exact ⟨rfl, frame_ex [(4, (.bool true))] hn hdf rfl rfl ⟨rfl, trivial⟩ hM⟩
                · skip
                  refine U_op rfl ?_
                  refine T_store 0 hn hM rfl rfl rfl rfl rfl rfl rfl (c' := #[(.int .u64 q.x.l0), (.int .u64 q.x.l1), (.int .u64 q.x.l2), (.int .u64 q.x.l3), (.int .u64 q.x.l4), (.int .u64 q.y.l0), (.int .u64 q.y.l1), (.int .u64 q.y.l2), (.int .u64 q.y.l3), (.int .u64 q.y.l4), (.int .u64 q.z.l0), (.int .u64 q.z.l1), (.int .u64 q.z.l2), (.int .u64 q.z.l3), (.int .u64 q.z.l4), (.int .u64 q.t.l0), (.int .u64 q.t.l1), (.int .u64 q.t.l2), (.int .u64 q.t.l3), (.int .u64 q.t.l4)]) (sets_row sz49 rfl rfl rfl) (fun w hM => ?_)
                  replace hM : Mem _ _ w [⟨b6, #[(.int .u64 q.x.l0), (.int .u64 q.x.l1), (.int .u64 q.x.l2), (.int .u64 q.x.l3), (.int .u64 q.x.l4), (.int .u64 q.y.l0), (.int .u64 q.y.l1), (.int .u64 q.y.l2), (.int .u64 q.y.l3), (.int .u64 q.y.l4), (.int .u64 q.z.l0), (.int .u64 q.z.l1), (.int .u64 q.z.l2), (.int .u64 q.z.l3), (.int .u64 q.z.l4), (.int .u64 q.t.l0), (.int .u64 q.t.l1), (.int .u64 q.t.l2), (.int .u64 q.t.l3), (.int .u64 q.t.l4)], 49, true⟩, ⟨b1, #[(.int .u64 c.d.l0), (.int .u64 c.d.l1), (.int .u64 c.d.l2), (.int .u64 c.d.l3), (.int .u64 c.d.l4), (.int .u64 c.e.l0), (.int .u64 c.e.l1), (.int .u64 c.e.l2), (.int .u64 c.e.l3), (.int .u64 c.e.l4), (.int .u64 c.x.l0), (.int .u64 c.x.l1), (.int .u64 c.x.l2), (.int .u64 c.x.l3), (.int .u64 c.x.l4), (.int .u64 c.y.l0), (.int .u64 c.y.l1), (.int .u64 c.y.l2), (.int .u64 c.y.l3), (.int .u64 c.y.l4), (.int .u64 c.z.l0), (.int .u64 c.z.l1), (.int .u64 c.z.l2), (.int .u64 c.z.l3), (.int .u64 c.z.l4), (.int .u64 c.t.l0), (.int .u64 c.t.l1), (.int .u64 c.t.l2), (.int .u64 c.t.l3), (.int .u64 c.t.l4)], 55, true⟩, ⟨b0, (arr .u8 32 (dgF 8 s)), 22, true⟩] := hM
                  refine T_nil ?_
                  refine any_1 (i1 := 5) (by kernel_rfl) ?_
                  refine U_op rfl ?_
                  refine T_val 10 hn hM rfl rfl rfl (v := (.bool true)) (g_extract rfl rfl rfl) ?_
                  refine T_nil ?_
                  refine any_1 (i1 := 8) (by kernel_rfl) ?_
                  refine U_op rfl ?_
                  refine T_val 4 hn hM rfl rfl rfl (v := (.bool true)) (g_assign rfl rfl) ?_
                  refine T_nil ?_
                  refine any_done (by kernel_rfl) ?_
                  replace hM := hM.sub [] ((.cons _ (.cons _ (.cons _ (List.Sublist.refl _)))))
                  exact ⟨rfl, frame_ex [(4, (.bool true))] hn hdf rfl rfl ⟨rfl, trivial⟩ hM⟩
              · skip
                refine U_op rfl ?_
                refine T_val 10 hn hM rfl rfl rfl (v := (.bool true)) (g_extract rfl rfl rfl) ?_
                refine T_nil ?_
                refine any_1 (i1 := 4) (by kernel_rfl) ?_
                refine U_op rfl ?_
                refine T_val 9 hn hM rfl rfl rfl (v := q.v) (g_extract rfl rfl rfl) ?_
                refine T_nil ?_
                refine any_1 (i1 := 7) (by kernel_rfl) ?_
                refine U_op rfl ?_
                refine T_store 0 hn hM rfl rfl rfl rfl rfl rfl rfl (c' := #[(.int .u64 q.x.l0), (.int .u64 q.x.l1), (.int .u64 q.x.l2), (.int .u64 q.x.l3), (.int .u64 q.x.l4), (.int .u64 q.y.l0), (.int .u64 q.y.l1), (.int .u64 q.y.l2), (.int .u64 q.y.l3), (.int .u64 q.y.l4), (.int .u64 q.z.l0), (.int .u64 q.z.l1), (.int .u64 q.z.l2), (.int .u64 q.z.l3), (.int .u64 q.z.l4), (.int .u64 q.t.l0), (.int .u64 q.t.l1), (.int .u64 q.t.l2), (.int .u64 q.t.l3), (.int .u64 q.t.l4)]) (sets_row sz49 rfl rfl rfl) (fun w hM => ?_)
                replace hM : Mem _ _ w [⟨b6, #[(.int .u64 q.x.l0), (.int .u64 q.x.l1), (.int .u64 q.x.l2), (.int .u64 q.x.l3), (.int .u64 q.x.l4), (.int .u64 q.y.l0), (.int .u64 q.y.l1), (.int .u64 q.y.l2), (.int .u64 q.y.l3), (.int .u64 q.y.l4), (.int .u64 q.z.l0), (.int .u64 q.z.l1), (.int .u64 q.z.l2), (.int .u64 q.z.l3), (.int .u64 q.z.l4), (.int .u64 q.t.l0), (.int .u64 q.t.l1), (.int .u64 q.t.l2), (.int .u64 q.t.l3), (.int .u64 q.t.l4)], 49, true⟩, ⟨b1, #[(.int .u64 c.d.l0), (.int .u64 c.d.l1), (.int .u64 c.d.l2), (.int .u64 c.d.l3), (.int .u64 c.d.l4), (.int .u64 c.e.l0), (.int .u64 c.e.l1), (.int .u64 c.e.l2), (.int .u64 c.e.l3), (.int .u64 c.e.l4), (.int .u64 c.x.l0), (.int .u64 c.x.l1), (.int .u64 c.x.l2), (.int .u64 c.x.l3), (.int .u64 c.x.l4), (.int .u64 c.y.l0), (.int .u64 c.y.l1), (.int .u64 c.y.l2), (.int .u64 c.y.l3), (.int .u64 c.y.l4), (.int .u64 c.z.l0), (.int .u64 c.z.l1), (.int .u64 c.z.l2), (.int .u64 c.z.l3), (.int .u64 c.z.l4), (.int .u64 c.t.l0), (.int .u64 c.t.l1), (.int .u64 c.t.l2), (.int .u64 c.t.l3), (.int .u64 c.t.l4)], 55, true⟩, ⟨b0, (arr .u8 32 (dgF 8 s)), 22, true⟩] := hM
                refine T_nil ?_
                refine any_1 (i1 := 8) (by kernel_rfl) ?_
                refine U_op rfl ?_
                refine T_val 4 hn hM rfl rfl rfl (v := (.bool true)) (g_assign rfl rfl) ?_
                refine T_nil ?_
                refine any_done (by kernel_rfl) ?_
                replace hM := hM.sub [] ((.cons _ (.cons _ (.cons _ (List.Sublist.refl _)))))
                exact ⟨rfl, frame_ex [(4, (.bool true))] hn hdf rfl rfl ⟨rfl, trivial⟩ hM⟩
          · skip
            refine U_op rfl ?_
            refine T_alloc 3 hn hM rfl rfl rfl rfl Tryd.zeroValue49 #[(.int .u64 0), (.int .u64 0), (.int .u64 0), (.int .u64 0), (.int .u64 0), (.int .u64 0), (.int .u64 0), (.int .u64 0), (.int .u64 0), (.int .u64 0), (.int .u64 0), (.int .u64 0), (.int .u64 0), (.int .u64 0), (.int .u64 0), (.int .u64 0), (.int .u64 0), (.int .u64 0), (.int .u64 0), (.int .u64 0)] rfl (fun b7 w hM => ?_)
            refine T_nil ?_
            refine any_1 (i1 := 3) (by kernel_rfl) ?_
            refine U_op rfl ?_
            refine T_val 5 hn hM rfl rfl rfl (v := (.tuple #[q.v, (.bool true)])) (g_move rfl rfl) ?_
            refine T_nil ?_
            refine any_2 (i1 := 4) (i2 := 5) (by kernel_rfl) ?_ ?_
            · skip
              refine U_op rfl ?_
              refine T_val 9 hn hM rfl rfl rfl (v := q.v) (g_extract rfl rfl rfl) ?_
              refine T_nil ?_
              refine any_2 (i1 := 5) (i2 := 7) (by kernel_rfl) ?_ ?_
              · skip
                refine U_op rfl ?_
                refine T_val 10 hn hM rfl rfl rfl (v := (.bool true)) (g_extract rfl rfl rfl) ?_
                refine T_nil ?_
                refine any_1 (i1 := 7) (by kernel_rfl) ?_
                refine U_op rfl ?_
                refine T_store 0 hn hM rfl rfl rfl rfl rfl rfl rfl (c' := #[(.int .u64 q.x.l0), (.int .u64 q.x.l1), (.int .u64 q.x.l2), (.int .u64 q.x.l3), (.int .u64 q.x.l4), (.int .u64 q.y.l0), (.int .u64 q.y.l1), (.int .u64 q.y.l2), (.int .u64 q.y.l3), (.int .u64 q.y.l4), (.int .u64 q.z.l0), (.int .u64 q.z.l1), (.int .u64 q.z.l2), (.int .u64 q.z.l3), (.int .u64 q.z.l4), (.int .u64 q.t.l0), (.int .u64 q.t.l1), (.int .u64 q.t.l2), (.int .u64 q.t.l3), (.int .u64 q.t.l4)]) (sets_row sz49 rfl rfl rfl) (fun w hM => ?_)
                replace hM : Mem _ _ w [⟨b7, #[(.int .u64 q.x.l0), (.int .u64 q.x.l1), (.int .u64 q.x.l2), (.int .u64 q.x.l3), (.int .u64 q.x.l4), (.int .u64 q.y.l0), (.int .u64 q.y.l1), (.int .u64 q.y.l2), (.int .u64 q.y.l3), (.int .u64 q.y.l4), (.int .u64 q.z.l0), (.int .u64 q.z.l1), (.int .u64 q.z.l2), (.int .u64 q.z.l3), (.int .u64 q.z.l4), (.int .u64 q.t.l0), (.int .u64 q.t.l1), (.int .u64 q.t.l2), (.int .u64 q.t.l3), (.int .u64 q.t.l4)], 49, true⟩, ⟨b1, #[(.int .u64 c.d.l0), (.int .u64 c.d.l1), (.int .u64 c.d.l2), (.int .u64 c.d.l3), (.int .u64 c.d.l4), (.int .u64 c.e.l0), (.int .u64 c.e.l1), (.int .u64 c.e.l2), (.int .u64 c.e.l3), (.int .u64 c.e.l4), (.int .u64 c.x.l0), (.int .u64 c.x.l1), (.int .u64 c.x.l2), (.int .u64 c.x.l3), (.int .u64 c.x.l4), (.int .u64 c.y.l0), (.int .u64 c.y.l1), (.int .u64 c.y.l2), (.int .u64 c.y.l3), (.int .u64 c.y.l4), (.int .u64 c.z.l0), (.int .u64 c.z.l1), (.int .u64 c.z.l2), (.int .u64 c.z.l3), (.int .u64 c.z.l4), (.int .u64 c.t.l0), (.int .u64 c.t.l1), (.int .u64 c.t.l2), (.int .u64 c.t.l3), (.int .u64 c.t.l4)], 55, true⟩, ⟨b0, (arr .u8 32 (dgF 8 s)), 22, true⟩] := hM
                refine T_nil ?_
                refine any_1 (i1 := 8) (by kernel_rfl) ?_
                refine U_op rfl ?_
                refine T_val 4 hn hM rfl rfl rfl (v := (.bool true)) (g_assign rfl rfl) ?_
                refine T_nil ?_
                refine any_done (by kernel_rfl) ?_
                replace hM := hM.sub [] ((.cons _ (.cons _ (.cons _ (List.Sublist.refl _)))))
                exact ⟨rfl, frame_ex [(4, (.bool true))] hn hdf rfl rfl ⟨rfl, trivial⟩ hM⟩
              · skip
                refine U_op rfl ?_
                refine T_store 0 hn hM rfl rfl rfl rfl rfl rfl rfl (c' := #[(.int .u64 q.x.l0), (.int .u64 q.x.l1), (.int .u64 q.x.l2), (.int .u64 q.x.l3), (.int .u64 q.x.l4), (.int .u64 q.y.l0), (.int .u64 q.y.l1), (.int .u64 q.y.l2), (.int .u64 q.y.l3), (.int .u64 q.y.l4), (.int .u64 q.z.l0), (.int .u64 q.z.l1), (.int .u64 q.z.l2), (.int .u64 q.z.l3), (.int .u64 q.z.l4), (.int .u64 q.t.l0), (.int .u64 q.t.l1), (.int .u64 q.t.l2), (.int .u64 q.t.l3), (.int .u64 q.t.l4)]) (sets_row sz49 rfl rfl rfl) (fun w hM => ?_)
                replace hM : Mem _ _ w [⟨b7, #[(.int .u64 q.x.l0), (.int .u64 q.x.l1), (.int .u64 q.x.l2), (.int .u64 q.x.l3), (.int .u64 q.x.l4), (.int .u64 q.y.l0), (.int .u64 q.y.l1), (.int .u64 q.y.l2), (.int .u64 q.y.l3), (.int .u64 q.y.l4), (.int .u64 q.z.l0), (.int .u64 q.z.l1), (.int .u64 q.z.l2), (.int .u64 q.z.l3), (.int .u64 q.z.l4), (.int .u64 q.t.l0), (.int .u64 q.t.l1), (.int .u64 q.t.l2), (.int .u64 q.t.l3), (.int .u64 q.t.l4)], 49, true⟩, ⟨b1, #[(.int .u64 c.d.l0), (.int .u64 c.d.l1), (.int .u64 c.d.l2), (.int .u64 c.d.l3), (.int .u64 c.d.l4), (.int .u64 c.e.l0), (.int .u64 c.e.l1), (.int .u64 c.e.l2), (.int .u64 c.e.l3), (.int .u64 c.e.l4), (.int .u64 c.x.l0), (.int .u64 c.x.l1), (.int .u64 c.x.l2), (.int .u64 c.x.l3), (.int .u64 c.x.l4), (.int .u64 c.y.l0), (.int .u64 c.y.l1), (.int .u64 c.y.l2), (.int .u64 c.y.l3), (.int .u64 c.y.l4), (.int .u64 c.z.l0), (.int .u64 c.z.l1), (.int .u64 c.z.l2), (.int .u64 c.z.l3), (.int .u64 c.z.l4), (.int .u64 c.t.l0), (.int .u64 c.t.l1), (.int .u64 c.t.l2), (.int .u64 c.t.l3), (.int .u64 c.t.l4)], 55, true⟩, ⟨b0, (arr .u8 32 (dgF 8 s)), 22, true⟩] := hM
                refine T_nil ?_
                refine any_1 (i1 := 5) (by kernel_rfl) ?_
                refine U_op rfl ?_
                refine T_val 10 hn hM rfl rfl rfl (v := (.bool true)) (g_extract rfl rfl rfl) ?_
                refine T_nil ?_
                refine any_1 (i1 := 8) (by kernel_rfl) ?_
                refine U_op rfl ?_
                refine T_val 4 hn hM rfl rfl rfl (v := (.bool true)) (g_assign rfl rfl) ?_
                refine T_nil ?_
                refine any_done (by kernel_rfl) ?_
                replace hM := hM.sub [] ((.cons _ (.cons _ (.cons _ (List.Sublist.refl _)))))
                exact ⟨rfl, frame_ex [(4, (.bool true))] hn hdf rfl rfl ⟨rfl, trivial⟩ hM⟩
            · skip
              refine U_op rfl ?_
              refine T_val 10 hn hM rfl rfl rfl (v := (.bool true)) (g_extract rfl rfl rfl) ?_
              refine T_nil ?_
              refine any_1 (i1 := 4) (by kernel_rfl) ?_
              refine U_op rfl ?_
              refine T_val 9 hn hM rfl rfl rfl (v := q.v) (g_extract rfl rfl rfl) ?_
              refine T_nil ?_
              refine any_1 (i1 := 7) (by kernel_rfl) ?_
              refine U_op rfl ?_
              refine T_store 0 hn hM rfl rfl rfl rfl rfl rfl rfl (c' := #[(.int .u64 q.x.l0), (.int .u64 q.x.l1), (.int .u64 q.x.l2), (.int .u64 q.x.l3), (.int .u64 q.x.l4), (.int .u64 q.y.l0), (.int .u64 q.y.l1), (.int .u64 q.y.l2), (.int .u64 q.y.l3), (.int .u64 q.y.l4), (.int .u64 q.z.l0), (.int .u64 q.z.l1), (.int .u64 q.z.l2), (.int .u64 q.z.l3), (.int .u64 q.z.l4), (.int .u64 q.t.l0), (.int .u64 q.t.l1), (.int .u64 q.t.l2), (.int .u64 q.t.l3), (.int .u64 q.t.l4)]) (sets_row sz49 rfl rfl rfl) (fun w hM => ?_)
              replace hM : Mem _ _ w [⟨b7, #[(.int .u64 q.x.l0), (.int .u64 q.x.l1), (.int .u64 q.x.l2), (.int .u64 q.x.l3), (.int .u64 q.x.l4), (.int .u64 q.y.l0), (.int .u64 q.y.l1), (.int .u64 q.y.l2), (.int .u64 q.y.l3), (.int .u64 q.y.l4), (.int .u64 q.z.l0), (.int .u64 q.z.l1), (.int .u64 q.z.l2), (.int .u64 q.z.l3), (.int .u64 q.z.l4), (.int .u64 q.t.l0), (.int .u64 q.t.l1), (.int .u64 q.t.l2), (.int .u64 q.t.l3), (.int .u64 q.t.l4)], 49, true⟩, ⟨b1, #[(.int .u64 c.d.l0), (.int .u64 c.d.l1), (.int .u64 c.d.l2), (.int .u64 c.d.l3), (.int .u64 c.d.l4), (.int .u64 c.e.l0), (.int .u64 c.e.l1), (.int .u64 c.e.l2), (.int .u64 c.e.l3), (.int .u64 c.e.l4), (.int .u64 c.x.l0), (.int .u64 c.x.l1), (.int .u64 c.x.l2), (.int .u64 c.x.l3), (.int .u64 c.x.l4), (.int .u64 c.y.l0), (.int .u64 c.y.l1), (.int .u64 c.y.l2), (.int .u64 c.y.l3), (.int .u64 c.y.l4), (.int .u64 c.z.l0), (.int .u64 c.z.l1), (.int .u64 c.z.l2), (.int .u64 c.z.l3), (.int .u64 c.z.l4), (.int .u64 c.t.l0), (.int .u64 c.t.l1), (.int .u64 c.t.l2), (.int .u64 c.t.l3), (.int .u64 c.t.l4)], 55, true⟩, ⟨b0, (arr .u8 32 (dgF 8 s)), 22, true⟩] := hM
              refine T_nil ?_
              refine any_1 (i1 := 8) (by kernel_rfl) ?_
              refine U_op rfl ?_
              refine T_val 4 hn hM rfl rfl rfl (v := (.bool true)) (g_assign rfl rfl) ?_
              refine T_nil ?_
              refine any_done (by kernel_rfl) ?_
              replace hM := hM.sub [] ((.cons _ (.cons _ (.cons _ (List.Sublist.refl _)))))
              exact ⟨rfl, frame_ex [(4, (.bool true))] hn hdf rfl rfl ⟨rfl, trivial⟩ hM⟩
        · skip
          refine U_op rfl ?_
          refine T_alloc 3 hn hM rfl rfl rfl rfl Tryd.zeroValue49 #[(.int .u64 0), (.int .u64 0), (.int .u64 0), (.int .u64 0), (.int .u64 0), (.int .u64 0), (.int .u64 0), (.int .u64 0), (.int .u64 0), (.int .u64 0), (.int .u64 0), (.int .u64 0), (.int .u64 0), (.int .u64 0), (.int .u64 0), (.int .u64 0), (.int .u64 0), (.int .u64 0), (.int .u64 0), (.int .u64 0)] rfl (fun b8 w hM => ?_)
          refine T_nil ?_
          refine any_1 (i1 := 2) (by kernel_rfl) ?_
          refine U_op rfl ?_
          refine T_call 8 hn hM rfl rfl rfl (v := (.tuple #[q.v, (.bool true)])) (g_callM (fun w hM => hrd w _ (hM.get 1 rfl)) rfl rfl rfl Tryd.func29 nm29 bd29) (fun w hM => ?_)
          refine T_nil ?_
          refine any_1 (i1 := 3) (by kernel_rfl) ?_
          refine U_op rfl ?_
          refine T_val 5 hn hM rfl rfl rfl (v := (.tuple #[q.v, (.bool true)])) (g_move rfl rfl) ?_
          refine T_nil ?_
          refine any_2 (i1 := 4) (i2 := 5) (by kernel_rfl) ?_ ?_
          · skip
            refine U_op rfl ?_
            refine T_val 9 hn hM rfl rfl rfl (v := q.v) (g_extract rfl rfl rfl) ?_
            refine T_nil ?_
            refine any_2 (i1 := 5) (i2 := 7) (by kernel_rfl) ?_ ?_
            · skip
              refine U_op rfl ?_
              refine T_val 10 hn hM rfl rfl rfl (v := (.bool true)) (g_extract rfl rfl rfl) ?_
              refine T_nil ?_
              refine any_1 (i1 := 7) (by kernel_rfl) ?_
              refine U_op rfl ?_
              refine T_store 0 hn hM rfl rfl rfl rfl rfl rfl rfl (c' := #[(.int .u64 q.x.l0), (.int .u64 q.x.l1), (.int .u64 q.x.l2), (.int .u64 q.x.l3), (.int .u64 q.x.l4), (.int .u64 q.y.l0), (.int .u64 q.y.l1), (.int .u64 q.y.l2), (.int .u64 q.y.l3), (.int .u64 q.y.l4), (.int .u64 q.z.l0), (.int .u64 q.z.l1), (.int .u64 q.z.l2), (.int .u64 q.z.l3), (.int .u64 q.z.l4), (.int .u64 q.t.l0), (.int .u64 q.t.l1), (.int .u64 q.t.l2), (.int .u64 q.t.l3), (.int .u64 q.t.l4)]) (sets_row sz49 rfl rfl rfl) (fun w hM => ?_)
              replace hM : Mem _ _ w [⟨b8, #[(.int .u64 q.x.l0), (.int .u64 q.x.l1), (.int .u64 q.x.l2), (.int .u64 q.x.l3), (.int .u64 q.x.l4), (.int .u64 q.y.l0), (.int .u64 q.y.l1), (.int .u64 q.y.l2), (.int .u64 q.y.l3), (.int .u64 q.y.l4), (.int .u64 q.z.l0), (.int .u64 q.z.l1), (.int .u64 q.z.l2), (.int .u64 q.z.l3), (.int .u64 q.z.l4), (.int .u64 q.t.l0), (.int .u64 q.t.l1), (.int .u64 q.t.l2), (.int .u64 q.t.l3), (.int .u64 q.t.l4)], 49, true⟩, ⟨b1, #[(.int .u64 c.d.l0), (.int .u64 c.d.l1), (.int .u64 c.d.l2), (.int .u64 c.d.l3), (.int .u64 c.d.l4), (.int .u64 c.e.l0), (.int .u64 c.e.l1), (.int .u64 c.e.l2), (.int .u64 c.e.l3), (.int .u64 c.e.l4), (.int .u64 c.x.l0), (.int .u64 c.x.l1), (.int .u64 c.x.l2), (.int .u64 c.x.l3), (.int .u64 c.x.l4), (.int .u64 c.y.l0), (.int .u64 c.y.l1), (.int .u64 c.y.l2), (.int .u64 c.y.l3), (.int .u64 c.y.l4), (.int .u64 c.z.l0), (.int .u64 c.z.l1), (.int .u64 c.z.l2), (.int .u64 c.z.l3), (.int .u64 c.z.l4), (.int .u64 c.t.l0), (.int .u64 c.t.l1), (.int .u64 c.t.l2), (.int .u64 c.t.l3), (.int .u64 c.t.l4)], 55, true⟩, ⟨b0, (arr .u8 32 (dgF 8 s)), 22, true⟩] := hM
              refine T_nil ?_
              refine any_1 (i1 := 8) (by kernel_rfl) ?_
              refine U_op rfl ?_
              refine T_val 4 hn hM rfl rfl rfl (v := (.bool true)) (g_assign rfl rfl) ?_
              refine T_nil ?_
              refine any_done (by kernel_rfl) ?_
              replace hM := hM.sub [] ((.cons _ (.cons _ (.cons _ (List.Sublist.refl _)))))
              exact ⟨rfl, frame_ex [(4, (.bool true))] hn hdf rfl rfl ⟨rfl, trivial⟩ hM⟩
            · skip
              refine U_op rfl ?_
              refine T_store 0 hn hM rfl rfl rfl rfl rfl rfl rfl (c' := #[(.int .u64 q.x.l0), (.int .u64 q.x.l1), (.int .u64 q.x.l2), (.int .u64 q.x.l3), (.int .u64 q.x.l4), (.int .u64 q.y.l0), (.int .u64 q.y.l1), (.int .u64 q.y.l2), (.int .u64 q.y.l3), (.int .u64 q.y.l4), (.int .u64 q.z.l0), (.int .u64 q.z.l1), (.int .u64 q.z.l2), (.int .u64 q.z.l3), (.int .u64 q.z.l4), (.int .u64 q.t.l0), (.int .u64 q.t.l1), (.int .u64 q.t.l2), (.int .u64 q.t.l3), (.int .u64 q.t.l4)]) (sets_row sz49 rfl rfl rfl) (fun w hM => ?_)
              replace hM : Mem _ _ w [⟨b8, #[(.int .u64 q.x.l0), (.int .u64 q.x.l1), (.int .u64 q.x.l2), (.int .u64 q.x.l3), (.int .u64 q.x.l4), (.int .u64 q.y.l0), (.int .u64 q.y.l1), (.int .u64 q.y.l2), (.int .u64 q.y.l3), (.int .u64 q.y.l4), (.int .u64 q.z.l0), (.int .u64 q.z.l1), (.int .u64 q.z.l2), (.int .u64 q.z.l3), (.int .u64 q.z.l4), (.int .u64 q.t.l0), (.int .u64 q.t.l1), (.int .u64 q.t.l2), (.int .u64 q.t.l3), (.int .u64 q.t.l4)], 49, true⟩, ⟨b1, #[(.int .u64 c.d.l0), (.int .u64 c.d.l1), (.int .u64 c.d.l2), (.int .u64 c.d.l3), (.int .u64 c.d.l4), (.int .u64 c.e.l0), (.int .u64 c.e.l1), (.int .u64 c.e.l2), (.int .u64 c.e.l3), (.int .u64 c.e.l4), (.int .u64 c.x.l0), (.int .u64 c.x.l1), (.int .u64 c.x.l2), (.int .u64 c.x.l3), (.int .u64 c.x.l4), (.int .u64 c.y.l0), (.int .u64 c.y.l1), (.int .u64 c.y.l2), (.int .u64 c.y.l3), (.int .u64 c.y.l4), (.int .u64 c.z.l0), (.int .u64 c.z.l1), (.int .u64 c.z.l2), (.int .u64 c.z.l3), (.int .u64 c.z.l4), (.int .u64 c.t.l0), (.int .u64 c.t.l1), (.int .u64 c.t.l2), (.int .u64 c.t.l3), (.int .u64 c.t.l4)], 55, true⟩, ⟨b0, (arr .u8 32 (dgF 8 s)), 22, true⟩] := hM
              refine T_nil ?_
              refine any_1 (i1 := 5) (by kernel_rfl) ?_
              refine U_op rfl ?_
              refine T_val 10 hn hM rfl rfl rfl (v := (.bool true)) (g_extract rfl rfl rfl) ?_
              refine T_nil ?_
              refine any_1 (i1 := 8) (by kernel_rfl) ?_
              refine U_op rfl ?_
              refine T_val 4 hn hM rfl rfl rfl (v := (.bool true)) (g_assign rfl rfl) ?_
              refine T_nil ?_
              refine any_done (by kernel_rfl) ?_
              replace hM := hM.sub [] ((.cons _ (.cons _ (.cons _ (List.Sublist.refl _)))))
              exact ⟨rfl, frame_ex [(4, (.bool true))] hn hdf rfl rfl ⟨rfl, trivial⟩ hM⟩
          · skip
            refine U_op rfl ?_
            refine T_val 10 hn hM rfl rfl rfl (v := (.bool true)) (g_extract rfl rfl rfl) ?_
            refine T_nil ?_
            refine any_1 (i1 := 4) (by kernel_rfl) ?_
            refine U_op rfl ?_
            refine T_val 9 hn hM rfl rfl rfl (v := q.v) (g_extract rfl rfl rfl) ?_
            refine T_nil ?_
            refine any_1 (i1 := 7) (by kernel_rfl) ?_
            refine U_op rfl ?_
            refine T_store 0 hn hM rfl rfl rfl rfl rfl rfl rfl (c' := #[(.int .u64 q.x.l0), (.int .u64 q.x.l1), (.int .u64 q.x.l2), (.int .u64 q.x.l3), (.int .u64 q.x.l4), (.int .u64 q.y.l0), (.int .u64 q.y.l1), (.int .u64 q.y.l2), (.int .u64 q.y.l3), (.int .u64 q.y.l4), (.int .u64 q.z.l0), (.int .u64 q.z.l1), (.int .u64 q.z.l2), (.int .u64 q.z.l3), (.int .u64 q.z.l4), (.int .u64 q.t.l0), (.int .u64 q.t.l1), (.int .u64 q.t.l2), (.int .u64 q.t.l3), (.int .u64 q.t.l4)]) (sets_row sz49 rfl rfl rfl) (fun w hM => ?_)
            replace hM : Mem _ _ w [⟨b8, #[(.int .u64 q.x.l0), (.int .u64 q.x.l1), (.int .u64 q.x.l2), (.int .u64 q.x.l3), (.int .u64 q.x.l4), (.int .u64 q.y.l0), (.int .u64 q.y.l1), (.int .u64 q.y.l2), (.int .u64 q.y.l3), (.int .u64 q.y.l4), (.int .u64 q.z.l0), (.int .u64 q.z.l1), (.int .u64 q.z.l2), (.int .u64 q.z.l3), (.int .u64 q.z.l4), (.int .u64 q.t.l0), (.int .u64 q.t.l1), (.int .u64 q.t.l2), (.int .u64 q.t.l3), (.int .u64 q.t.l4)], 49, true⟩, ⟨b1, #[(.int .u64 c.d.l0), (.int .u64 c.d.l1), (.int .u64 c.d.l2), (.int .u64 c.d.l3), (.int .u64 c.d.l4), (.int .u64 c.e.l0), (.int .u64 c.e.l1), (.int .u64 c.e.l2), (.int .u64 c.e.l3), (.int .u64 c.e.l4), (.int .u64 c.x.l0), (.int .u64 c.x.l1), (.int .u64 c.x.l2), (.int .u64 c.x.l3), (.int .u64 c.x.l4), (.int .u64 c.y.l0), (.int .u64 c.y.l1), (.int .u64 c.y.l2), (.int .u64 c.y.l3), (.int .u64 c.y.l4), (.int .u64 c.z.l0), (.int .u64 c.z.l1), (.int .u64 c.z.l2), (.int .u64 c.z.l3), (.int .u64 c.z.l4), (.int .u64 c.t.l0), (.int .u64 c.t.l1), (.int .u64 c.t.l2), (.int .u64 c.t.l3), (.int .u64 c.t.l4)], 55, true⟩, ⟨b0, (arr .u8 32 (dgF 8 s)), 22, true⟩] := hM
            refine T_nil ?_
            refine any_1 (i1 := 8) (by kernel_rfl) ?_
            refine U_op rfl ?_
            refine T_val 4 hn hM rfl rfl rfl (v := (.bool true)) (g_assign rfl rfl) ?_
            refine T_nil ?_
            refine any_done (by kernel_rfl) ?_
            replace hM := hM.sub [] ((.cons _ (.cons _ (.cons _ (List.Sublist.refl _)))))
            exact ⟨rfl, frame_ex [(4, (.bool true))] hn hdf rfl rfl ⟨rfl, trivial⟩ hM⟩
      · skip
        refine U_op rfl ?_
        refine T_alloc 3 hn hM rfl rfl rfl rfl Tryd.zeroValue49 #[(.int .u64 0), (.int .u64 0), (.int .u64 0), (.int .u64 0), (.int .u64 0), (.int .u64 0), (.int .u64 0), (.int .u64 0), (.int .u64 0), (.int .u64 0), (.int .u64 0), (.int .u64 0), (.int .u64 0), (.int .u64 0), (.int .u64 0), (.int .u64 0), (.int .u64 0), (.int .u64 0), (.int .u64 0), (.int .u64 0)] rfl (fun b9 w hM => ?_)
        refine T_nil ?_
        refine any_1 (i1 := 1) (by kernel_rfl) ?_
        refine U_op rfl ?_
        refine T_val 7 hn hM rfl rfl rfl (v := (.agg (arr .u8 32 (dgF 8 s)))) (g_loadAll 2 rfl rfl rfl Tryd.underlying22 rfl (by rw [arr_len]; exact sz22)) ?_
        refine T_nil ?_
        refine any_1 (i1 := 2) (by kernel_rfl) ?_
        refine U_op rfl ?_
        refine T_call 8 hn hM rfl rfl rfl (v := (.tuple #[q.v, (.bool true)])) (g_callM (fun w hM => hrd w _ (hM.get 1 rfl)) rfl rfl rfl Tryd.func29 nm29 bd29) (fun w hM => ?_)
        refine T_nil ?_
        refine any_1 (i1 := 3) (by kernel_rfl) ?_
        refine U_op rfl ?_
        refine T_val 5 hn hM rfl rfl rfl (v := (.tuple #[q.v, (.bool true)])) (g_move rfl rfl) ?_
        refine T_nil ?_
        refine any_2 (i1 := 4) (i2 := 5) (by kernel_rfl) ?_ ?_
        · skip
          refine U_op rfl ?_
          refine T_val 9 hn hM rfl rfl rfl (v := q.v) (g_extract rfl rfl rfl) ?_
          refine T_nil ?_
          refine any_2 (i1 := 5) (i2 := 7) (by kernel_rfl) ?_ ?_
          · skip
            refine U_op rfl ?_
            refine T_val 10 hn hM rfl rfl rfl (v := (.bool true)) (g_extract rfl rfl rfl) ?_
            refine T_nil ?_
            refine any_1 (i1 := 7) (by kernel_rfl) ?_
            refine U_op rfl ?_
            refine T_store 0 hn hM rfl rfl rfl rfl rfl rfl rfl (c' := #[(.int .u64 q.x.l0), (.int .u64 q.x.l1), (.int .u64 q.x.l2), (.int .u64 q.x.l3), (.int .u64 q.x.l4), (.int .u64 q.y.l0), (.int .u64 q.y.l1), (.int .u64 q.y.l2), (.int .u64 q.y.l3), (.int .u64 q.y.l4), (.int .u64 q.z.l0), (.int .u64 q.z.l1), (.int .u64 q.z.l2), (.int .u64 q.z.l3), (.int .u64 q.z.l4), (.int .u64 q.t.l0), (.int .u64 q.t.l1), (.int .u64 q.t.l2), (.int .u64 q.t.l3), (.int .u64 q.t.l4)]) (sets_row sz49 rfl rfl rfl) (fun w hM => ?_)
            replace hM : Mem _ _ w [⟨b9, #[(.int .u64 q.x.l0), (.int .u64 q.x.l1), (.int .u64 q.x.l2), (.int .u64 q.x.l3), (.int .u64 q.x.l4), (.int .u64 q.y.l0), (.int .u64 q.y.l1), (.int .u64 q.y.l2), (.int .u64 q.y.l3), (.int .u64 q.y.l4), (.int .u64 q.z.l0), (.int .u64 q.z.l1), (.int .u64 q.z.l2), (.int .u64 q.z.l3), (.int .u64 q.z.l4), (.int .u64 q.t.l0), (.int .u64 q.t.l1), (.int .u64 q.t.l2), (.int .u64 q.t.l3), (.int .u64 q.t.l4)], 49, true⟩, ⟨b1, #[(.int .u64 c.d.l0), (.int .u64 c.d.l1), (.int .u64 c.d.l2), (.int .u64 c.d.l3), (.int .u64 c.d.l4), (.int .u64 c.e.l0), (.int .u64 c.e.l1), (.int .u64 c.e.l2), (.int .u64 c.e.l3), (.int .u64 c.e.l4), (.int .u64 c.x.l0), (.int .u64 c.x.l1), (.int .u64 c.x.l2), (.int .u64 c.x.l3), (.int .u64 c.x.l4), (.int .u64 c.y.l0), (.int .u64 c.y.l1), (.int .u64 c.y.l2), (.int .u64 c.y.l3), (.int .u64 c.y.l4), (.int .u64 c.z.l0), (.int .u64 c.z.l1), (.int .u64 c.z.l2), (.int .u64 c.z.l3), (.int .u64 c.z.l4), (.int .u64 c.t.l0), (.int .u64 c.t.l1), (.int .u64 c.t.l2), (.int .u64 c.t.l3), (.int .u64 c.t.l4)], 55, true⟩, ⟨b0, (arr .u8 32 (dgF 8 s)), 22, true⟩] := hM
            refine T_nil ?_
            refine any_1 (i1 := 8) (by kernel_rfl) ?_
            refine U_op rfl ?_
            refine T_val 4 hn hM rfl rfl rfl (v := (.bool true)) (g_assign rfl rfl) ?_
            refine T_nil ?_
            refine any_done (by kernel_rfl) ?_
            replace hM := hM.sub [] ((.cons _ (.cons _ (.cons _ (List.Sublist.refl _)))))
            exact ⟨rfl, frame_ex [(4, (.bool true))] hn hdf rfl rfl ⟨rfl, trivial⟩ hM⟩
          · skip
            refine U_op rfl ?_
            refine T_store 0 hn hM rfl rfl rfl rfl rfl rfl rfl (c' := #[(.int .u64 q.x.l0), (.int .u64 q.x.l1), (.int .u64 q.x.l2), (.int .u64 q.x.l3), (.int .u64 q.x.l4), (.int .u64 q.y.l0), (.int .u64 q.y.l1), (.int .u64 q.y.l2), (.int .u64 q.y.l3), (.int .u64 q.y.l4), (.int .u64 q.z.l0), (.int .u64 q.z.l1), (.int .u64 q.z.l2), (.int .u64 q.z.l3), (.int .u64 q.z.l4), (.int .u64 q.t.l0), (.int .u64 q.t.l1), (.int .u64 q.t.l2), (.int .u64 q.t.l3), (.int .u64 q.t.l4)]) (sets_row sz49 rfl rfl rfl) (fun w hM => ?_)
            replace hM : Mem _ _ w [⟨b9, #[(.int .u64 q.x.l0), (.int .u64 q.x.l1), (.int .u64 q.x.l2), (.int .u64 q.x.l3), (.int .u64 q.x.l4), (.int .u64 q.y.l0), (.int .u64 q.y.l1), (.int .u64 q.y.l2), (.int .u64 q.y.l3), (.int .u64 q.y.l4), (.int .u64 q.z.l0), (.int .u64 q.z.l1), (.int .u64 q.z.l2), (.int .u64 q.z.l3), (.int .u64 q.z.l4), (.int .u64 q.t.l0), (.int .u64 q.t.l1), (.int .u64 q.t.l2), (.int .u64 q.t.l3), (.int .u64 q.t.l4)], 49, true⟩, ⟨b1, #[(.int .u64 c.d.l0), (.int .u64 c.d.l1), (.int .u64 c.d.l2), (.int .u64 c.d.l3), (.int .u64 c.d.l4), (.int .u64 c.e.l0), (.int .u64 c.e.l1), (.int .u64 c.e.l2), (.int .u64 c.e.l3), (.int .u64 c.e.l4), (.int .u64 c.x.l0), (.int .u64 c.x.l1), (.int .u64 c.x.l2), (.int .u64 c.x.l3), (.int .u64 c.x.l4), (.int .u64 c.y.l0), (.int .u64 c.y.l1), (.int .u64 c.y.l2), (.int .u64 c.y.l3), (.int .u64 c.y.l4), (.int .u64 c.z.l0), (.int .u64 c.z.l1), (.int .u64 c.z.l2), (.int .u64 c.z.l3), (.int .u64 c.z.l4), (.int .u64 c.t.l0), (.int .u64 c.t.l1), (.int .u64 c.t.l2), (.int .u64 c.t.l3), (.int .u64 c.t.l4)], 55, true⟩, ⟨b0, (arr .u8 32 (dgF 8 s)), 22, true⟩] := hM
            refine T_nil ?_
            refine any_1 (i1 := 5) (by kernel_rfl) ?_
            refine U_op rfl ?_
            refine T_val 10 hn hM rfl rfl rfl (v := (.bool true)) (g_extract rfl rfl rfl) ?_
            refine T_nil ?_
            refine any_1 (i1 := 8) (by kernel_rfl) ?_
            refine U_op rfl ?_
            refine T_val 4 hn hM rfl rfl rfl (v := (.bool true)) (g_assign rfl rfl) ?_
            refine T_nil ?_
            refine any_done (by kernel_rfl) ?_
            replace hM := hM.sub [] ((.cons _ (.cons _ (.cons _ (List.Sublist.refl _)))))
            exact ⟨rfl, frame_ex [(4, (.bool true))] hn hdf rfl rfl ⟨rfl, trivial⟩ hM⟩
        · skip
          refine U_op rfl ?_
          refine T_val 10 hn hM rfl rfl rfl (v := (.bool true)) (g_extract rfl rfl rfl) ?_
          refine T_nil ?_
          refine any_1 (i1 := 4) (by kernel_rfl) ?_
          refine U_op rfl ?_
          refine T_val 9 hn hM rfl rfl rfl (v := q.v) (g_extract rfl rfl rfl) ?_
          refine T_nil ?_
          refine any_1 (i1 := 7) (by kernel_rfl) ?_
          refine U_op rfl ?_
          refine T_store 0 hn hM rfl rfl rfl rfl rfl rfl rfl (c' := #[(.int .u64 q.x.l0), (.int .u64 q.x.l1), (.int .u64 q.x.l2), (.int .u64 q.x.l3), (.int .u64 q.x.l4), (.int .u64 q.y.l0), (.int .u64 q.y.l1), (.int .u64 q.y.l2), (.int .u64 q.y.l3), (.int .u64 q.y.l4), (.int .u64 q.z.l0), (.int .u64 q.z.l1), (.int .u64 q.z.l2), (.int .u64 q.z.l3), (.int .u64 q.z.l4), (.int .u64 q.t.l0), (.int .u64 q.t.l1), (.int .u64 q.t.l2), (.int .u64 q.t.l3), (.int .u64 q.t.l4)]) (sets_row sz49 rfl rfl rfl) (fun w hM => ?_)
          replace hM : Mem _ _ w [⟨b9, #[(.int .u64 q.x.l0), (.int .u64 q.x.l1), (.int .u64 q.x.l2), (.int .u64 q.x.l3), (.int .u64 q.x.l4), (.int .u64 q.y.l0), (.int .u64 q.y.l1), (.int .u64 q.y.l2), (.int .u64 q.y.l3), (.int .u64 q.y.l4), (.int .u64 q.z.l0), (.int .u64 q.z.l1), (.int .u64 q.z.l2), (.int .u64 q.z.l3), (.int .u64 q.z.l4), (.int .u64 q.t.l0), (.int .u64 q.t.l1), (.int .u64 q.t.l2), (.int .u64 q.t.l3), (.int .u64 q.t.l4)], 49, true⟩, ⟨b1, #[(.int .u64 c.d.l0), (.int .u64 c.d.l1), (.int .u64 c.d.l2), (.int .u64 c.d.l3), (.int .u64 c.d.l4), (.int .u64 c.e.l0), (.int .u64 c.e.l1), (.int .u64 c.e.l2), (.int .u64 c.e.l3), (.int .u64 c.e.l4), (.int .u64 c.x.l0), (.int .u64 c.x.l1), (.int .u64 c.x.l2), (.int .u64 c.x.l3), (.int .u64 c.x.l4), (.int .u64 c.y.l0), (.int .u64 c.y.l1), (.int .u64 c.y.l2), (.int .u64 c.y.l3), (.int .u64 c.y.l4), (.int .u64 c.z.l0), (.int .u64 c.z.l1), (.int .u64 c.z.l2), (.int .u64 c.z.l3), (.int .u64 c.z.l4), (.int .u64 c.t.l0), (.int .u64 c.t.l1), (.int .u64 c.t.l2), (.int .u64 c.t.l3), (.int .u64 c.t.l4)], 55, true⟩, ⟨b0, (arr .u8 32 (dgF 8 s)), 22, true⟩] := hM
          refine T_nil ?_
          refine any_1 (i1 := 8) (by kernel_rfl) ?_
          refine U_op rfl ?_
          refine T_val 4 hn hM rfl rfl rfl (v := (.bool true)) (g_assign rfl rfl) ?_
          refine T_nil ?_
          refine any_done (by kernel_rfl) ?_
          replace hM := hM.sub [] ((.cons _ (.cons _ (.cons _ (List.Sublist.refl _)))))
          exact ⟨rfl, frame_ex [(4, (.bool true))] hn hdf rfl rfl ⟨rfl, trivial⟩ hM⟩
    · skip
      refine U_op rfl ?_
      refine T_val 7 hn hM rfl rfl rfl (v := (.agg (arr .u8 32 (dgF 8 s)))) (g_loadAll 0 rfl rfl rfl Tryd.underlying22 rfl (by rw [arr_len]; exact sz22)) ?_
      refine T_nil ?_
      refine any_2 (i1 := 0) (i2 := 6) (by kernel_rfl) ?_ ?_
      · skip
        refine U_op rfl ?_
        refine T_callN 6 hn hM rfl rfl rfl rfl rfl Tryd.func19 nm19 bd19 (hbeg w) (fun b10 w hM => ?_)
        refine T_nil ?_
        refine any_2 (i1 := 2) (i2 := 6) (by kernel_rfl) ?_ ?_
        · skip
          refine U_op rfl ?_
          refine T_call 8 hn hM rfl rfl rfl (v := (.tuple #[q.v, (.bool true)])) (g_callM (fun w hM => hrd w _ (hM.get 0 rfl)) rfl rfl rfl Tryd.func29 nm29 bd29) (fun w hM => ?_)
          refine T_nil ?_
          refine any_2 (i1 := 3) (i2 := 6) (by kernel_rfl) ?_ ?_
          · skip
            refine U_op rfl ?_
            refine T_val 5 hn hM rfl rfl rfl (v := (.tuple #[q.v, (.bool true)])) (g_move rfl rfl) ?_
            refine T_nil ?_
            refine any_3 (i1 := 4) (i2 := 5) (i3 := 6) (by kernel_rfl) ?_ ?_ ?_
            · skip
              refine U_op rfl ?_
              refine T_val 9 hn hM rfl rfl rfl (v := q.v) (g_extract rfl rfl rfl) ?_
              refine T_nil ?_
              refine any_2 (i1 := 5) (i2 := 6) (by kernel_rfl) ?_ ?_
              · skip
                refine U_op rfl ?_
                refine T_val 10 hn hM rfl rfl rfl (v := (.bool true)) (g_extract rfl rfl rfl) ?_
                refine T_nil ?_
                refine any_1 (i1 := 6) (by kernel_rfl) ?_
                refine U_op rfl ?_
                refine T_alloc 3 hn hM rfl rfl rfl rfl Tryd.zeroValue49 #[(.int .u64 0), (.int .u64 0), (.int .u64 0), (.int .u64 0), (.int .u64 0), (.int .u64 0), (.int .u64 0), (.int .u64 0), (.int .u64 0), (.int .u64 0), (.int .u64 0), (.int .u64 0), (.int .u64 0), (.int .u64 0), (.int .u64 0), (.int .u64 0), (.int .u64 0), (.int .u64 0), (.int .u64 0), (.int .u64 0)] rfl (fun b11 w hM => ?_)
                refine T_nil ?_
                refine any_1 (i1 := 7) (by kernel_rfl) ?_
                refine U_op rfl ?_
                refine T_store 0 hn hM rfl rfl rfl rfl rfl rfl rfl (c' := #[(.int .u64 q.x.l0), (.int .u64 q.x.l1), (.int .u64 q.x.l2), (.int .u64 q.x.l3), (.int .u64 q.x.l4), (.int .u64 q.y.l0), (.int .u64 q.y.l1), (.int .u64 q.y.l2), (.int .u64 q.y.l3), (.int .u64 q.y.l4), (.int .u64 q.z.l0), (.int .u64 q.z.l1), (.int .u64 q.z.l2), (.int .u64 q.z.l3), (.int .u64 q.z.l4), (.int .u64 q.t.l0), (.int .u64 q.t.l1), (.int .u64 q.t.l2), (.int .u64 q.t.l3), (.int .u64 q.t.l4)]) (sets_row sz49 rfl rfl rfl) (fun w hM => ?_)
                replace hM : Mem _ _ w [⟨b11, #[(.int .u64 q.x.l0), (.int .u64 q.x.l1), (.int .u64 q.x.l2), (.int .u64 q.x.l3), (.int .u64 q.x.l4), (.int .u64 q.y.l0), (.int .u64 q.y.l1), (.int .u64 q.y.l2), (.int .u64 q.y.l3), (.int .u64 q.y.l4), (.int .u64 q.z.l0), (.int .u64 q.z.l1), (.int .u64 q.z.l2), (.int .u64 q.z.l3), (.int .u64 q.z.l4), (.int .u64 q.t.l0), (.int .u64 q.t.l1), (.int .u64 q.t.l2), (.int .u64 q.t.l3), (.int .u64 q.t.l4)], 49, true⟩, ⟨b10, #[(.int .u64 c.d.l0), (.int .u64 c.d.l1), (.int .u64 c.d.l2), (.int .u64 c.d.l3), (.int .u64 c.d.l4), (.int .u64 c.e.l0), (.int .u64 c.e.l1), (.int .u64 c.e.l2), (.int .u64 c.e.l3), (.int .u64 c.e.l4), (.int .u64 c.x.l0), (.int .u64 c.x.l1), (.int .u64 c.x.l2), (.int .u64 c.x.l3), (.int .u64 c.x.l4), (.int .u64 c.y.l0), (.int .u64 c.y.l1), (.int .u64 c.y.l2), (.int .u64 c.y.l3), (.int .u64 c.y.l4), (.int .u64 c.z.l0), (.int .u64 c.z.l1), (.int .u64 c.z.l2), (.int .u64 c.z.l3), (.int .u64 c.z.l4), (.int .u64 c.t.l0), (.int .u64 c.t.l1), (.int .u64 c.t.l2), (.int .u64 c.t.l3), (.int .u64 c.t.l4)], 55, true⟩, ⟨b0, (arr .u8 32 (dgF 8 s)), 22, true⟩] := hM
                refine T_nil ?_
                refine any_1 (i1 := 8) (by kernel_rfl) ?_
                refine U_op rfl ?_
                refine T_val 4 hn hM rfl rfl rfl (v := (.bool true)) (g_assign rfl rfl) ?_
                refine T_nil ?_
                refine any_done (by kernel_rfl) ?_
                replace hM := hM.sub [] ((.cons _ (.cons _ (.cons _ (List.Sublist.refl _)))))
                exact ⟨rfl, frame_ex [(4, (.bool true))] hn hdf rfl rfl ⟨rfl, trivial⟩ hM⟩
              · skip
                refine U_op rfl ?_
                refine T_alloc 3 hn hM rfl rfl rfl rfl Tryd.zeroValue49 #[(.int .u64 0), (.int .u64 0), (.int .u64 0), (.int .u64 0), (.int .u64 0), (.int .u64 0), (.int .u64 0), (.int .u64 0), (.int .u64 0), (.int .u64 0), (.int .u64 0), (.int .u64 0), (.int .u64 0), (.int .u64 0), (.int .u64 0), (.int .u64 0), (.int .u64 0), (.int .u64 0), (.int .u64 0), (.int .u64 0)] rfl (fun b12 w hM => ?_)
                refine T_nil ?_
                refine any_2 (i1 := 5) (i2 := 7) (by kernel_rfl) ?_ ?_
                · skip
                  refine U_op rfl ?_
                  refine T_val 10 hn hM rfl rfl rfl (v := (.bool true)) (g_extract rfl rfl rfl) ?_
                  refine T_nil ?_
                  refine any_1 (i1 := 7) (by kernel_rfl) ?_
                  refine U_op rfl ?_
                  refine T_store 0 hn hM rfl rfl rfl rfl rfl rfl rfl (c' := #[(.int .u64 q.x.l0), (.int .u64 q.x.l1), (.int .u64 q.x.l2), (.int .u64 q.x.l3), (.int .u64 q.x.l4), (.int .u64 q.y.l0), (.int .u64 q.y.l1), (.int .u64 q.y.l2), (.int .u64 q.y.l3), (.int .u64 q.y.l4), (.int .u64 q.z.l0), (.int .u64 q.z.l1), (.int .u64 q.z.l2), (.int .u64 q.z.l3), (.int .u64 q.z.l4), (.int .u64 q.t.l0), (.int .u64 q.t.l1), (.int .u64 q.t.l2), (.int .u64 q.t.l3), (.int .u64 q.t.l4)]) (sets_row sz49 rfl rfl rfl) (fun w hM => ?_)
                  replace hM : Mem _ _ w [⟨b12, #[(.int .u64 q.x.l0), (.int .u64 q.x.l1), (.int .u64 q.x.l2), (.int .u64 q.x.l3), (.int .u64 q.x.l4), (.int .u64 q.y.l0), (.int .u64 q.y.l1), (.int .u64 q.y.l2), (.int .u64 q.y.l3), (.int .u64 q.y.l4), (.int .u64 q.z.l0), (.int .u64 q.z.l1), (.int .u64 q.z.l2), (.int .u64 q.z.l3), (.int .u64 q.z.l4), (.int .u64 q.t.l0), (.int .u64 q.t.l1), (.int .u64 q.t.l2), (.int .u64 q.t.l3), (.int .u64 q.t.l4)], 49, true⟩, ⟨b10, #[(.int .u64 c.d.l0), (.int .u64 c.d.l1), (.int .u64 c.d.l2), (.int .u64 c.d.l3), (.int .u64 c.d.l4), (.int .u64 c.e.l0), (.int .u64 c.e.l1), (.int .u64 c.e.l2), (.int .u64 c.e.l3), (.int .u64 c.e.l4), (.int .u64 c.x.l0), (.int .u64 c.x.l1), (.int .u64 c.x.l2), (.int .u64 c.x.l3), (.int .u64 c.x.l4), (.int .u64 c.y.l0), (.int .u64 c.y.l1), (.int .u64 c.y.l2), (.int .u64 c.y.l3), (.int .u64 c.y.l4), (.int .u64 c.z.l0), (.int .u64 c.z.l1), (.int .u64 c.z.l2), (.int .u64 c.z.l3), (.int .u64 c.z.l4), (.int .u64 c.t.l0), (.int .u64 c.t.l1), (.int .u64 c.t.l2), (.int .u64 c.t.l3), (.int .u64 c.t.l4)], 55, true⟩, ⟨b0, (arr .u8 32 (dgF 8 s)), 22, true⟩] := hM
                  refine T_nil ?_
                  refine any_1 (i1 := 8) (by kernel_rfl) ?_
                  refine U_op rfl ?_
                  refine T_val 4 hn hM rfl rfl rfl (v := (.bool true)) (g_assign rfl rfl) ?_
                  refine T_nil ?_
                  refine any_done (by kernel_rfl) ?_
                  replace hM := hM.sub [] ((.cons _ (.cons _ (.cons _ (List.Sublist.refl _)))))
                  exact ⟨rfl, frame_ex [(4, (.bool true))] hn hdf rfl rfl ⟨rfl, trivial⟩ hM⟩
                · skip
                  refine U_op rfl ?_
                  refine T_store 0 hn hM rfl rfl rfl rfl rfl rfl rfl (c' := #[(.int .u64 q.x.l0), (.int .u64 q.x.l1), (.int .u64 q.x.l2), (.int .u64 q.x.l3), (.int .u64 q.x.l4), (.int .u64 q.y.l0), (.int .u64 q.y.l1), (.int .u64 q.y.l2), (.int .u64 q.y.l3), (.int .u64 q.y.l4), (.int .u64 q.z.l0), (.int .u64 q.z.l1), (.int .u64 q.z.l2), (.int .u64 q.z.l3), (.int .u64 q.z.l4), (.int .u64 q.t.l0), (.int .u64 q.t.l1), (.int .u64 q.t.l2), (.int .u64 q.t.l3), (.int .u64 q.t.l4)]) (sets_row sz49 rfl rfl rfl) (fun w hM => ?_)
                  replace hM : Mem _ _ w [⟨b12, #[(.int .u64 q.x.l0), (.int .u64 q.x.l1), (.int .u64 q.x.l2), (.int .u64 q.x.l3), (.int .u64 q.x.l4), (.int .u64 q.y.l0), (.int .u64 q.y.l1), (.int .u64 q.y.l2), (.int .u64 q.y.l3), (.int .u64 q.y.l4), (.int .u64 q.z.l0), (.int .u64 q.z.l1), (.int .u64 q.z.l2), (.int .u64 q.z.l3), (.int .u64 q.z.l4), (.int .u64 q.t.l0), (.int .u64 q.t.l1), (.int .u64 q.t.l2), (.int .u64 q.t.l3), (.int .u64 q.t.l4)], 49, true⟩, ⟨b10, #[(.int .u64 c.d.l0), (.int .u64 c.d.l1), (.int .u64 c.d.l2), (.int .u64 c.d.l3), (.int .u64 c.d.l4), (.int .u64 c.e.l0), (.int .u64 c.e.l1), (.int .u64 c.e.l2), (.int .u64 c.e.l3), (.int .u64 c.e.l4), (.int .u64 c.x.l0), (.int .u64 c.x.l1), (.int .u64 c.x.l2), (.int .u64 c.x.l3), (.int .u64 c.x.l4), (.int .u64 c.y.l0), (.int .u64 c.y.l1), (.int .u64 c.y.l2), (.int .u64 c.y.l3), (.int .u64 c.y.l4), (.int .u64 c.z.l0), (.int .u64 c.z.l1), (.int .u64 c.z.l2), (.int .u64 c.z.l3), (.int .u64 c.z.l4), (.int .u64 c.t.l0), (.int .u64 c.t.l1), (.int .u64 c.t.l2), (.int .u64 c.t.l3), (.int .u64 c.t.l4)], 55, true⟩, ⟨b0, (arr .u8 32 (dgF 8 s)), 22, true⟩] := hM
                  refine T_nil ?_
                  refine any_1 (i1 := 5) (by kernel_rfl) ?_
                  refine U_op rfl ?_
                  refine T_val 10 hn hM rfl rfl rfl (v := (.bool true)) (g_extract rfl rfl rfl) ?_
                  refine T_nil ?_
                  refine any_1 (i1 := 8) (by kernel_rfl) ?_
                  refine U_op rfl ?_
                  refine T_val 4 hn hM rfl rfl rfl (v := (.bool true)) (g_assign rfl rfl) ?_
                  refine T_nil ?_
                  refine any_done (by kernel_rfl) ?_
                  replace hM := hM.sub [] ((.cons _ (.cons _ (.cons _ (List.Sublist.refl _)))))
                  exact ⟨rfl, frame_ex [(4, (.bool true))] hn hdf rfl rfl ⟨rfl, trivial⟩ hM⟩
            · skip
              refine U_op rfl ?_
              refine T_val 10 hn hM rfl rfl rfl (v := (.bool true)) (g_extract rfl rfl rfl) ?_
              refine T_nil ?_
              refine any_2 (i1 := 4) (i2 := 6) (by kernel_rfl) ?_ ?_
              · skip
                refine U_op rfl ?_
                refine T_val 9 hn hM rfl rfl rfl (v := q.v) (g_extract rfl rfl rfl) ?_
                refine T_nil ?_
                refine any_1 (i1 := 6) (by kernel_rfl) ?_
                refine U_op rfl ?_
                refine T_alloc 3 hn hM rfl rfl rfl rfl Tryd.zeroValue49 #[(.int .u64 0), (.int .u64 0), (.int .u64 0), (.int .u64 0), (.int .u64 0), (.int .u64 0), (.int .u64 0), (.int .u64 0), (.int .u64 0), (.int .u64 0), (.int .u64 0), (.int .u64 0), (.int .u64 0), (.int .u64 0), (.int .u64 0), (.int .u64 0), (.int .u64 0), (.int .u64 0), (.int .u64 0), (.int .u64 0)] rfl (fun b13 w hM => ?_)
                refine T_nil ?_
                refine any_1 (i1 := 7) (by kernel_rfl) ?_
                refine U_op rfl ?_
                refine T_store 0 hn hM rfl rfl rfl rfl rfl rfl rfl (c' := #[(.int .u64 q.x.l0), (.int .u64 q.x.l1), (.int .u64 q.x.l2), (.int .u64 q.x.l3), (.int .u64 q.x.l4), (.int .u64 q.y.l0), (.int .u64 q.y.l1), (.int .u64 q.y.l2), (.int .u64 q.y.l3), (.int .u64 q.y.l4), (.int .u64 q.z.l0), (.int .u64 q.z.l1), (.int .u64 q.z.l2), (.int .u64 q.z.l3), (.int .u64 q.z.l4), (.int .u64 q.t.l0), (.int .u64 q.t.l1), (.int .u64 q.t.l2), (.int .u64 q.t.l3), (.int .u64 q.t.l4)]) (sets_row sz49 rfl rfl rfl) (fun w hM => ?_)
                replace hM : Mem _ _ w [⟨b13, #[(.int .u64 q.x.l0), (.int .u64 q.x.l1), (.int .u64 q.x.l2), (.int .u64 q.x.l3), (.int .u64 q.x.l4), (.int .u64 q.y.l0), (.int .u64 q.y.l1), (.int .u64 q.y.l2), (.int .u64 q.y.l3), (.int .u64 q.y.l4), (.int .u64 q.z.l0), (.int .u64 q.z.l1), (.int .u64 q.z.l2), (.int .u64 q.z.l3), (.int .u64 q.z.l4), (.int .u64 q.t.l0), (.int .u64 q.t.l1), (.int .u64 q.t.l2), (.int .u64 q.t.l3), (.int .u64 q.t.l4)], 49, true⟩, ⟨b10, #[(.int .u64 c.d.l0), (.int .u64 c.d.l1), (.int .u64 c.d.l2), (.int .u64 c.d.l3), (.int .u64 c.d.l4), (.int .u64 c.e.l0), (.int .u64 c.e.l1), (.int .u64 c.e.l2), (.int .u64 c.e.l3), (.int .u64 c.e.l4), (.int .u64 c.x.l0), (.int .u64 c.x.l1), (.int .u64 c.x.l2), (.int .u64 c.x.l3), (.int .u64 c.x.l4), (.int .u64 c.y.l0), (.int .u64 c.y.l1), (.int .u64 c.y.l2), (.int .u64 c.y.l3), (.int .u64 c.y.l4), (.int .u64 c.z.l0), (.int .u64 c.z.l1), (.int .u64 c.z.l2), (.int .u64 c.z.l3), (.int .u64 c.z.l4), (.int .u64 c.t.l0), (.int .u64 c.t.l1), (.int .u64 c.t.l2), (.int .u64 c.t.l3), (.int .u64 c.t.l4)], 55, true⟩, ⟨b0, (arr .u8 32 (dgF 8 s)), 22, true⟩] := hM
                refine T_nil ?_
                refine any_1 (i1 := 8) (by kernel_rfl) ?_
                refine U_op rfl ?_
                refine T_val 4 hn hM rfl rfl rfl (v := (.bool true)) (g_assign rfl rfl) ?_
                refine T_nil ?_
                refine any_done (by kernel_rfl) ?_
                replace hM := hM.sub [] ((.cons _ (.cons _ (.cons _ (List.Sublist.refl _)))))
                exact ⟨rfl, frame_ex [(4, (.bool true))] hn hdf rfl rfl ⟨rfl, trivial⟩ hM⟩
              · skip
                refine U_op rfl ?_
                refine T_alloc 3 hn hM rfl rfl rfl rfl Tryd.zeroValue49 #[(.int .u64 0), (.int .u64 0), (.int .u64 0), (.int .u64 0), (.int .u64 0), (.int .u64 0), (.int .u64 0), (.int .u64 0), (.int .u64 0), (.int .u64 0), (.int .u64 0), (.int .u64 0), (.int .u64 0), (.int .u64 0), (.int .u64 0), (.int .u64 0), (.int .u64 0), (.int .u64 0), (.int .u64 0), (.int .u64 0)] rfl (fun b14 w hM => ?_)
                refine T_nil ?_
                refine any_1 (i1 := 4) (by kernel_rfl) ?_
                refine U_op rfl ?_
                refine T_val 9 hn hM rfl rfl rfl (v := q.v) (g_extract rfl rfl rfl) ?_
                refine T_nil ?_
                refine any_1 (i1 := 7) (by kernel_rfl) ?_
                refine U_op rfl ?_
                refine T_store 0 hn hM rfl rfl rfl rfl rfl rfl rfl (c' := #[(.int .u64 q.x.l0), (.int .u64 q.x.l1), (.int .u64 q.x.l2), (.int .u64 q.x.l3), (.int .u64 q.x.l4), (.int .u64 q.y.l0), (.int .u64 q.y.l1), (.int .u64 q.y.l2), (.int .u64 q.y.l3), (.int .u64 q.y.l4), (.int .u64 q.z.l0), (.int .u64 q.z.l1), (.int .u64 q.z.l2), (.int .u64 q.z.l3), (.int .u64 q.z.l4), (.int .u64 q.t.l0), (.int .u64 q.t.l1), (.int .u64 q.t.l2), (.int .u64 q.t.l3), (.int .u64 q.t.l4)]) (sets_row sz49 rfl rfl rfl) (fun w hM => ?_)
                replace hM : Mem _ _ w [⟨b14, #[(.int .u64 q.x.l0), (.int .u64 q.x.l1), (.int .u64 q.x.l2), (.int .u64 q.x.l3), (.int .u64 q.x.l4), (.int .u64 q.y.l0), (.int .u64 q.y.l1), (.int .u64 q.y.l2), (.int .u64 q.y.l3), (.int .u64 q.y.l4), (.int .u64 q.z.l0), (.int .u64 q.z.l1), (.int .u64 q.z.l2), (.int .u64 q.z.l3), (.int .u64 q.z.l4), (.int .u64 q.t.l0), (.int .u64 q.t.l1), (.int .u64 q.t.l2), (.int .u64 q.t.l3), (.int .u64 q.t.l4)], 49, true⟩, ⟨b10, #[(.int .u64 c.d.l0), (.int .u64 c.d.l1), (.int .u64 c.d.l2), (.int .u64 c.d.l3), (.int .u64 c.d.l4), (.int .u64 c.e.l0), (.int .u64 c.e.l1), (.int .u64 c.e.l2), (.int .u64 c.e.l3), (.int .u64 c.e.l4), (.int .u64 c.x.l0), (.int .u64 c.x.l1), (.int .u64 c.x.l2), (.int .u64 c.x.l3), (.int .u64 c.x.l4), (.int .u64 c.y.l0), (.int .u64 c.y.l1), (.int .u64 c.y.l2), (.int .u64 c.y.l3), (.int .u64 c.y.l4), (.int .u64 c.z.l0), (.int .u64 c.z.l1), (.int .u64 c.z.l2), (.int .u64 c.z.l3), (.int .u64 c.z.l4), (.int .u64 c.t.l0), (.int .u64 c.t.l1), (.int .u64 c.t.l2), (.int .u64 c.t.l3), (.int .u64 c.t.l4)], 55, true⟩, ⟨b0, (arr .u8 32 (dgF 8 s)), 22, true⟩] := hM
                refine T_nil ?_
                refine any_1 (i1 := 8) (by kernel_rfl) ?_
                refine U_op rfl ?_
                refine T_val 4 hn hM rfl rfl rfl (v := (.bool true)) (g_assign rfl rfl) ?_
                refine T_nil ?_
                refine any_done (by kernel_rfl) ?_
                replace hM := hM.sub [] ((.cons _ (.cons _ (.cons _ (List.Sublist.refl _)))))
                exact ⟨rfl, frame_ex [(4, (.bool true))] hn hdf rfl rfl ⟨rfl, trivial⟩ hM⟩
            · skip
              refine U_op rfl ?_
              refine T_alloc 3 hn hM rfl rfl rfl rfl Tryd.zeroValue49 #[(.int .u64 0), (.int .u64 0), (.int .u64 0), (.int .u64 0), (.int .u64 0), (.int .u64 0), (.int .u64 0), (.int .u64 0), (.int .u64 0), (.int .u64 0), (.int .u64 0), (.int .u64 0), (.int .u64 0), (.int .u64 0), (.int .u64 0), (.int .u64 0), (.int .u64 0), (.int .u64 0), (.int .u64 0), (.int .u64 0)] rfl (fun b15 w hM => ?_)
              refine T_nil ?_
              refine any_2 (i1 := 4) (i2 := 5) (by kernel_rfl) ?_ ?_
              · skip
                refine U_op rfl ?_
                refine T_val 9 hn hM rfl rfl rfl (v := q.v) (g_extract rfl rfl rfl) ?_
                refine T_nil ?_
                refine any_2 (i1 := 5) (i2 := 7) (by kernel_rfl) ?_ ?_
                · skip
                  refine U_op rfl ?_
                  refine T_val 10 hn hM rfl rfl rfl (v := (.bool true)) (g_extract rfl rfl rfl) ?_
                  refine T_nil ?_
                  refine any_1 (i1 := 7) (by kernel_rfl) ?_
                  refine U_op rfl ?_
                  refine T_store 0 hn hM rfl rfl rfl rfl rfl rfl rfl (c' := #[(.int .u64 q.x.l0), (.int .u64 q.x.l1), (.int .u64 q.x.l2), (.int .u64 q.x.l3), (.int .u64 q.x.l4), (.int .u64 q.y.l0), (.int .u64 q.y.l1), (.int .u64 q.y.l2), (.int .u64 q.y.l3), (.int .u64 q.y.l4), (.int .u64 q.z.l0), (.int .u64 q.z.l1), (.int .u64 q.z.l2), (.int .u64 q.z.l3), (.int .u64 q.z.l4), (.int .u64 q.t.l0), (.int .u64 q.t.l1), (.int .u64 q.t.l2), (.int .u64 q.t.l3), (.int .u64 q.t.l4)]) (sets_row sz49 rfl rfl rfl) (fun w hM => ?_)
                  replace hM : Mem _ _ w [⟨b15, #[(.int .u64 q.x.l0), (.int .u64 q.x.l1), (.int .u64 q.x.l2), (.int .u64 q.x.l3), (.int .u64 q.x.l4), (.int .u64 q.y.l0), (.int .u64 q.y.l1), (.int .u64 q.y.l2), (.int .u64 q.y.l3), (.int .u64 q.y.l4), (.int .u64 q.z.l0), (.int .u64 q.z.l1), (.int .u64 q.z.l2), (.int .u64 q.z.l3), (.int .u64 q.z.l4), (.int .u64 q.t.l0), (.int .u64 q.t.l1), (.int .u64 q.t.l2), (.int .u64 q.t.l3), (.int .u64 q.t.l4)], 49, true⟩, ⟨b10, #[(.int .u64 c.d.l0), (.int .u64 c.d.l1), (.int .u64 c.d.l2), (.int .u64 c.d.l3), (.int .u64 c.d.l4), (.int .u64 c.e.l0), (.int .u64 c.e.l1), (.int .u64 c.e.l2), (.int .u64 c.e.l3), (.int .u64 c.e.l4), (.int .u64 c.x.l0), (.int .u64 c.x.l1), (.int .u64 c.x.l2), (.int .u64 c.x.l3), (.int .u64 c.x.l4), (.int .u64 c.y.l0), (.int .u64 c.y.l1), (.int .u64 c.y.l2), (.int .u64 c.y.l3), (.int .u64 c.y.l4), (.int .u64 c.z.l0), (.int .u64 c.z.l1), (.int .u64 c.z.l2), (.int .u64 c.z.l3), (.int .u64 c.z.l4), (.int .u64 c.t.l0), (.int .u64 c.t.l1), (.int .u64 c.t.l2), (.int .u64 c.t.l3), (.int .u64 c.t.l4)], 55, true⟩, ⟨b0, (arr .u8 32 (dgF 8 s)), 22, true⟩] := hM
                  refine T_nil ?_
                  refine any_1 (i1 := 8) (by kernel_rfl) ?_
                  refine U_op rfl ?_
                  refine T_val 4 hn hM rfl rfl rfl (v := (.bool true)) (g_assign rfl rfl) ?_
                  refine T_nil ?_
                  refine any_done (by kernel_rfl) ?_
                  replace hM := hM.sub [] ((.cons _ (.cons _ (.cons _ (List.Sublist.refl _)))))
                  exact ⟨rfl, frame_ex [(4, (.bool true))] hn hdf rfl rfl ⟨rfl, trivial⟩ hM⟩
                · skip
                  refine U_op rfl ?_
                  refine T_store 0 hn hM rfl rfl rfl rfl rfl rfl rfl (c' := #[(.int .u64 q.x.l0), (.int .u64 q.x.l1), (.int .u64 q.x.l2), (.int .u64 q.x.l3), (.int .u64 q.x.l4), (.int .u64 q.y.l0), (.int .u64 q.y.l1), (.int .u64 q.y.l2), (.int .u64 q.y.l3), (.int .u64 q.y.l4), (.int .u64 q.z.l0), (.int .u64 q.z.l1), (.int .u64 q.z.l2), (.int .u64 q.z.l3), (.int .u64 q.z.l4), (.int .u64 q.t.l0), (.int .u64 q.t.l1), (.int .u64 q.t.l2), (.int .u64 q.t.l3), (.int .u64 q.t.l4)]) (sets_row sz49 rfl rfl rfl) (fun w hM => ?_)
                  replace hM : Mem _ _ w [⟨b15, #[(.int .u64 q.x.l0), (.int .u64 q.x.l1), (.int .u64 q.x.l2), (.int .u64 q.x.l3), (.int .u64 q.x.l4), (.int .u64 q.y.l0), (.int .u64 q.y.l1), (.int .u64 q.y.l2), (.int .u64 q.y.l3), (.int .u64 q.y.l4), (.int .u64 q.z.l0), (.int .u64 q.z.l1), (.int .u64 q.z.l2), (.int .u64 q.z.l3), (.int .u64 q.z.l4), (.int .u64 q.t.l0), (.int .u64 q.t.l1), (.int .u64 q.t.l2), (.int .u64 q.t.l3), (.int .u64 q.t.l4)], 49, true⟩, ⟨b10, #[(.int .u64 c.d.l0), (.int .u64 c.d.l1), (.int .u64 c.d.l2), (.int .u64 c.d.l3), (.int .u64 c.d.l4), (.int .u64 c.e.l0), (.int .u64 c.e.l1), (.int .u64 c.e.l2), (.int .u64 c.e.l3), (.int .u64 c.e.l4), (.int .u64 c.x.l0), (.int .u64 c.x.l1), (.int .u64 c.x.l2), (.int .u64 c.x.l3), (.int .u64 c.x.l4), (.int .u64 c.y.l0), (.int .u64 c.y.l1), (.int .u64 c.y.l2), (.int .u64 c.y.l3), (.int .u64 c.y.l4), (.int .u64 c.z.l0), (.int .u64 c.z.l1), (.int .u64 c.z.l2), (.int .u64 c.z.l3), (.int .u64 c.z.l4), (.int .u64 c.t.l0), (.int .u64 c.t.l1), (.int .u64 c.t.l2), (.int .u64 c.t.l3), (.int .u64 c.t.l4)], 55, true⟩, ⟨b0, (arr .u8 32 (dgF 8 s)), 22, true⟩] := hM
                  refine T_nil ?_
                  refine any_1 (i1 := 5) (by kernel_rfl) ?_
                  refine U_op rfl ?_
                  refine T_val 10 hn hM rfl rfl rfl (v := (.bool true)) (g_extract rfl rfl rfl) ?_
                  refine T_nil ?_
                  refine any_1 (i1 := 8) (by kernel_rfl) ?_
                  refine U_op rfl ?_
                  refine T_val 4 hn hM rfl rfl rfl (v := (.bool true)) (g_assign rfl rfl) ?_
                  refine T_nil ?_
                  refine any_done (by kernel_rfl) ?_
                  replace hM := hM.sub [] ((.cons _ (.cons _ (.cons _ (List.Sublist.refl _)))))
                  exact ⟨rfl, frame_ex [(4, (.bool true))] hn hdf rfl rfl ⟨rfl, trivial⟩ hM⟩
              · skip
                refine U_op rfl ?_
                refine T_val 10 hn hM rfl rfl rfl (v := (.bool true)) (g_extract rfl rfl rfl) ?_
                refine T_nil ?_
                refine any_1 (i1 := 4) (by kernel_rfl) ?_
                refine U_op rfl ?_
                refine T_val 9 hn hM rfl rfl rfl (v := q.v) (g_extract rfl rfl rfl) ?_
                refine T_nil ?_
                refine any_1 (i1 := 7) (by kernel_rfl) ?_
                refine U_op rfl ?_
                refine T_store 0 hn hM rfl rfl rfl rfl rfl rfl rfl (c' := #[(.int .u64 q.x.l0), (.int .u64 q.x.l1), (.int .u64 q.x.l2), (.int .u64 q.x.l3), (.int .u64 q.x.l4), (.int .u64 q.y.l0), (.int .u64 q.y.l1), (.int .u64 q.y.l2), (.int .u64 q.y.l3), (.int .u64 q.y.l4), (.int .u64 q.z.l0), (.int .u64 q.z.l1), (.int .u64 q.z.l2), (.int .u64 q.z.l3), (.int .u64 q.z.l4), (.int .u64 q.t.l0), (.int .u64 q.t.l1), (.int .u64 q.t.l2), (.int .u64 q.t.l3), (.int .u64 q.t.l4)]) (sets_row sz49 rfl rfl rfl) (fun w hM => ?_)
                replace hM : Mem _ _ w [⟨b15, #[(.int .u64 q.x.l0), (.int .u64 q.x.l1), (.int .u64 q.x.l2), (.int .u64 q.x.l3), (.int .u64 q.x.l4), (.int .u64 q.y.l0), (.int .u64 q.y.l1), (.int .u64 q.y.l2), (.int .u64 q.y.l3), (.int .u64 q.y.l4), (.int .u64 q.z.l0), (.int .u64 q.z.l1), (.int .u64 q.z.l2), (.int .u64 q.z.l3), (.int .u64 q.z.l4), (.int .u64 q.t.l0), (.int .u64 q.t.l1), (.int .u64 q.t.l2), (.int .u64 q.t.l3), (.int .u64 q.t.l4)], 49, true⟩, ⟨b10, #[(.int .u64 c.d.l0), (.int .u64 c.d.l1), (.int .u64 c.d.l2), (.int .u64 c.d.l3), (.int .u64 c.d.l4), (.int .u64 c.e.l0), (.int .u64 c.e.l1), (.int .u64 c.e.l2), (.int .u64 c.e.l3), (.int .u64 c.e.l4), (.int .u64 c.x.l0), (.int .u64 c.x.l1), (.int .u64 c.x.l2), (.int .u64 c.x.l3), (.int .u64 c.x.l4), (.int .u64 c.y.l0), (.int .u64 c.y.l1), (.int .u64 c.y.l2), (.int .u64 c.y.l3), (.int .u64 c.y.l4), (.int .u64 c.z.l0), (.int .u64 c.z.l1), (.int .u64 c.z.l2), (.int .u64 c.z.l3), (.int .u64 c.z.l4), (.int .u64 c.t.l0), (.int .u64 c.t.l1), (.int .u64 c.t.l2), (.int .u64 c.t.l3), (.int .u64 c.t.l4)], 55, true⟩, ⟨b0, (arr .u8 32 (dgF 8 s)), 22, true⟩] := hM
                refine T_nil ?_
                refine any_1 (i1 := 8) (by kernel_rfl) ?_
                refine U_op rfl ?_
                refine T_val 4 hn hM rfl rfl rfl (v := (.bool true)) (g_assign rfl rfl) ?_
                refine T_nil ?_
                refine any_done (by kernel_rfl) ?_
                replace hM := hM.sub [] ((.cons _ (.cons _ (.cons _ (List.Sublist.refl _)))))
                exact ⟨rfl, frame_ex [(4, (.bool true))] hn hdf rfl rfl ⟨rfl, trivial⟩ hM⟩
          · skip
            refine U_op rfl ?_
            refine T_alloc 3 hn hM rfl rfl rfl rfl Tryd.zeroValue49 #[(.int .u64 0), (.int .u64 0), (.int .u64 0), (.int .u64 0), (.int .u64 0), (.int .u64 0), (.int .u64 0), (.int .u64 0), (.int .u64 0), (.int .u64 0), (.int .u64 0), (.int .u64 0), (.int .u64 0), (.int .u64 0), (.int .u64 0), (.int .u64 0), (.int .u64 0), (.int .u64 0), (.int .u64 0), (.int .u64 0)] rfl (fun b16 w hM => ?_)
            refine T_nil ?_
            refine any_1 (i1 := 3) (by kernel_rfl) ?_
            refine U_op rfl ?_
            refine T_val 5 hn hM rfl rfl rfl (v := (.tuple #[q.v, (.bool true)])) (g_move rfl rfl) ?_
            refine T_nil ?_
            refine any_2 (i1 := 4) (i2 := 5) (by kernel_rfl) ?_ ?_
            · skip
              refine U_op rfl ?_
              refine T_val 9 hn hM rfl rfl rfl (v := q.v) (g_extract rfl rfl rfl) ?_
              refine T_nil ?_
              refine any_2 (i1 := 5) (i2 := 7) (by kernel_rfl) ?_ ?_
              · skip
                refine U_op rfl ?_
                refine T_val 10 hn hM rfl rfl rfl (v := (.bool true)) (g_extract rfl rfl rfl) ?_
                refine T_nil ?_
                refine any_1 (i1 := 7) (by kernel_rfl) ?_
                refine U_op rfl ?_
                refine T_store 0 hn hM rfl rfl rfl rfl rfl rfl rfl (c' := #[(.int .u64 q.x.l0), (.int .u64 q.x.l1), (.int .u64 q.x.l2), (.int .u64 q.x.l3), (.int .u64 q.x.l4), (.int .u64 q.y.l0), (.int .u64 q.y.l1), (.int .u64 q.y.l2), (.int .u64 q.y.l3), (.int .u64 q.y.l4), (.int .u64 q.z.l0), (.int .u64 q.z.l1), (.int .u64 q.z.l2), (.int .u64 q.z.l3), (.int .u64 q.z.l4), (.int .u64 q.t.l0), (.int .u64 q.t.l1), (.int .u64 q.t.l2), (.int .u64 q.t.l3), (.int .u64 q.t.l4)]) (sets_row sz49 rfl rfl rfl) (fun w hM => ?_)
                replace hM : Mem _ _ w [⟨b16, #[(.int .u64 q.x.l0), (.int .u64 q.x.l1), (.int .u64 q.x.l2), (.int .u64 q.x.l3), (.int .u64 q.x.l4), (.int .u64 q.y.l0), (.int .u64 q.y.l1), (.int .u64 q.y.l2), (.int .u64 q.y.l3), (.int .u64 q.y.l4), (.int .u64 q.z.l0), (.int .u64 q.z.l1), (.int .u64 q.z.l2), (.int .u64 q.z.l3), (.int .u64 q.z.l4), (.int .u64 q.t.l0), (.int .u64 q.t.l1), (.int .u64 q.t.l2), (.int .u64 q.t.l3), (.int .u64 q.t.l4)], 49, true⟩, ⟨b10, #[(.int .u64 c.d.l0), (.int .u64 c.d.l1), (.int .u64 c.d.l2), (.int .u64 c.d.l3), (.int .u64 c.d.l4), (.int .u64 c.e.l0), (.int .u64 c.e.l1), (.int .u64 c.e.l2), (.int .u64 c.e.l3), (.int .u64 c.e.l4), (.int .u64 c.x.l0), (.int .u64 c.x.l1), (.int .u64 c.x.l2), (.int .u64 c.x.l3), (.int .u64 c.x.l4), (.int .u64 c.y.l0), (.int .u64 c.y.l1), (.int .u64 c.y.l2), (.int .u64 c.y.l3), (.int .u64 c.y.l4), (.int .u64 c.z.l0), (.int .u64 c.z.l1), (.int .u64 c.z.l2), (.int .u64 c.z.l3), (.int .u64 c.z.l4), (.int .u64 c.t.l0), (.int .u64 c.t.l1), (.int .u64 c.t.l2), (.int .u64 c.t.l3), (.int .u64 c.t.l4)], 55, true⟩, ⟨b0, (arr .u8 32 (dgF 8 s)), 22, true⟩] := hM
                refine T_nil ?_
                refine any_1 (i1 := 8) (by kernel_rfl) ?_
                refine U_op rfl ?_
                refine T_val 4 hn hM rfl rfl rfl (v := (.bool true)) (g_assign rfl rfl) ?_
                refine T_nil ?_
                refine any_done (by kernel_rfl) ?_
                replace hM := hM.sub [] ((.cons _ (.cons _ (.cons _ (List.Sublist.refl _)))))
                exact ⟨rfl, frame_ex [(4, (.bool true))] hn hdf rfl rfl ⟨rfl, trivial⟩ hM⟩
              · skip
                refine U_op rfl ?_
                refine T_store 0 hn hM rfl rfl rfl rfl rfl rfl rfl (c' := #[(.int .u64 q.x.l0), (.int .u64 q.x.l1), (.int .u64 q.x.l2), (.int .u64 q.x.l3), (.int .u64 q.x.l4), (.int .u64 q.y.l0), (.int .u64 q.y.l1), (.int .u64 q.y.l2), (.int .u64 q.y.l3), (.int .u64 q.y.l4), (.int .u64 q.z.l0), (.int .u64 q.z.l1), (.int .u64 q.z.l2), (.int .u64 q.z.l3), (.int .u64 q.z.l4), (.int .u64 q.t.l0), (.int .u64 q.t.l1), (.int .u64 q.t.l2), (.int .u64 q.t.l3), (.int .u64 q.t.l4)]) (sets_row sz49 rfl rfl rfl) (fun w hM => ?_)
                replace hM : Mem _ _ w [⟨b16, #[(.int .u64 q.x.l0), (.int .u64 q.x.l1), (.int .u64 q.x.l2), (.int .u64 q.x.l3), (.int .u64 q.x.l4), (.int .u64 q.y.l0), (.int .u64 q.y.l1), (.int .u64 q.y.l2), (.int .u64 q.y.l3), (.int .u64 q.y.l4), (.int .u64 q.z.l0), (.int .u64 q.z.l1), (.int .u64 q.z.l2), (.int .u64 q.z.l3), (.int .u64 q.z.l4), (.int .u64 q.t.l0), (.int .u64 q.t.l1), (.int .u64 q.t.l2), (.int .u64 q.t.l3), (.int .u64 q.t.l4)], 49, true⟩, ⟨b10, #[(.int .u64 c.d.l0), (.int .u64 c.d.l1), (.int .u64 c.d.l2), (.int .u64 c.d.l3), (.int .u64 c.d.l4), (.int .u64 c.e.l0), (.int .u64 c.e.l1), (.int .u64 c.e.l2), (.int .u64 c.e.l3), (.int .u64 c.e.l4), (.int .u64 c.x.l0), (.int .u64 c.x.l1), (.int .u64 c.x.l2), (.int .u64 c.x.l3), (.int .u64 c.x.l4), (.int .u64 c.y.l0), (.int .u64 c.y.l1), (.int .u64 c.y.l2), (.int .u64 c.y.l3), (.int .u64 c.y.l4), (.int .u64 c.z.l0), (.int .u64 c.z.l1), (.int .u64 c.z.l2), (.int .u64 c.z.l3), (.int .u64 c.z.l4), (.int .u64 c.t.l0), (.int .u64 c.t.l1), (.int .u64 c.t.l2), (.int .u64 c.t.l3), (.int .u64 c.t.l4)], 55, true⟩, ⟨b0, (arr .u8 32 (dgF 8 s)), 22, true⟩] := hM
                refine T_nil ?_
                refine any_1 (i1 := 5) (by kernel_rfl) ?_
                refine U_op rfl ?_
                refine T_val 10 hn hM rfl rfl rfl (v := (.bool true)) (g_extract rfl rfl rfl) ?_
                refine T_nil ?_
                refine any_1 (i1 := 8) (by kernel_rfl) ?_
                refine U_op rfl ?_
                refine T_val 4 hn hM rfl rfl rfl (v := (.bool true)) (g_assign rfl rfl) ?_
                refine T_nil ?_
                refine any_done (by kernel_rfl) ?_
                replace hM := hM.sub [] ((.cons _ (.cons _ (.cons _ (List.Sublist.refl _)))))
                exact ⟨rfl, frame_ex [(4, (.bool true))] hn hdf rfl rfl ⟨rfl, trivial⟩ hM⟩
            · skip
              refine U_op rfl ?_
              refine T_val 10 hn hM rfl rfl rfl (v := (.bool true)) (g_extract rfl rfl rfl) ?_
              refine T_nil ?_
              refine any_1 (i1 := 4) (by kernel_rfl) ?_
              refine U_op rfl ?_
              refine T_val 9 hn hM rfl rfl rfl (v := q.v) (g_extract rfl rfl rfl) ?_
              refine T_nil ?_
              refine any_1 (i1 := 7) (by kernel_rfl) ?_
              refine U_op rfl ?_
              refine T_store 0 hn hM rfl rfl rfl rfl rfl rfl rfl (c' := #[(.int .u64 q.x.l0), (.int .u64 q.x.l1), (.int .u64 q.x.l2), (.int .u64 q.x.l3), (.int .u64 q.x.l4), (.int .u64 q.y.l0), (.int .u64 q.y.l1), (.int .u64 q.y.l2), (.int .u64 q.y.l3), (.int .u64 q.y.l4), (.int .u64 q.z.l0), (.int .u64 q.z.l1), (.int .u64 q.z.l2), (.int .u64 q.z.l3), (.int .u64 q.z.l4), (.int .u64 q.t.l0), (.int .u64 q.t.l1), (.int .u64 q.t.l2), (.int .u64 q.t.l3), (.int .u64 q.t.l4)]) (sets_row sz49 rfl rfl rfl) (fun w hM => ?_)
              replace hM : Mem _ _ w [⟨b16, #[(.int .u64 q.x.l0), (.int .u64 q.x.l1), (.int .u64 q.x.l2), (.int .u64 q.x.l3), (.int .u64 q.x.l4), (.int .u64 q.y.l0), (.int .u64 q.y.l1), (.int .u64 q.y.l2), (.int .u64 q.y.l3), (.int .u64 q.y.l4), (.int .u64 q.z.l0), (.int .u64 q.z.l1), (.int .u64 q.z.l2), (.int .u64 q.z.l3), (.int .u64 q.z.l4), (.int .u64 q.t.l0), (.int .u64 q.t.l1), (.int .u64 q.t.l2), (.int .u64 q.t.l3), (.int .u64 q.t.l4)], 49, true⟩, ⟨b10, #[(.int .u64 c.d.l0), (.int .u64 c.d.l1), (.int .u64 c.d.l2), (.int .u64 c.d.l3), (.int .u64 c.d.l4), (.int .u64 c.e.l0), (.int .u64 c.e.l1), (.int .u64 c.e.l2), (.int .u64 c.e.l3), (.int .u64 c.e.l4), (.int .u64 c.x.l0), (.int .u64 c.x.l1), (.int .u64 c.x.l2), (.int .u64 c.x.l3), (.int .u64 c.x.l4), (.int .u64 c.y.l0), (.int .u64 c.y.l1), (.int .u64 c.y.l2), (.int .u64 c.y.l3), (.int .u64 c.y.l4), (.int .u64 c.z.l0), (.int .u64 c.z.l1), (.int .u64 c.z.l2), (.int .u64 c.z.l3), (.int .u64 c.z.l4), (.int .u64 c.t.l0), (.int .u64 c.t.l1), (.int .u64 c.t.l2), (.int .u64 c.t.l3), (.int .u64 c.t.l4)], 55, true⟩, ⟨b0, (arr .u8 32 (dgF 8 s)), 22, true⟩] := hM
              refine T_nil ?_
              refine any_1 (i1 := 8) (by kernel_rfl) ?_
              refine U_op rfl ?_
              refine T_val 4 hn hM rfl rfl rfl (v := (.bool true)) (g_assign rfl rfl) ?_
              refine T_nil ?_
              refine any_done (by kernel_rfl) ?_
              replace hM := hM.sub [] ((.cons _ (.cons _ (.cons _ (List.Sublist.refl _)))))
              exact ⟨rfl, frame_ex [(4, (.bool true))] hn hdf rfl rfl ⟨rfl, trivial⟩ hM⟩
        · skip
          refine U_op rfl ?_
          refine T_alloc 3 hn hM rfl rfl rfl rfl Tryd.zeroValue49 #[(.int .u64 0), (.int .u64 0), (.int .u64 0), (.int .u64 0), (.int .u64 0), (.int .u64 0), (.int .u64 0), (.int .u64 0), (.int .u64 0), (.int .u64 0), (.int .u64 0), (.int .u64 0), (.int .u64 0), (.int .u64 0), (.int .u64 0), (.int .u64 0), (.int .u64 0), (.int .u64 0), (.int .u64 0), (.int .u64 0)] rfl (fun b17 w hM => ?_)
          refine T_nil ?_
          refine any_1 (i1 := 2) (by kernel_rfl) ?_
          refine U_op rfl ?_
          refine T_call 8 hn hM rfl rfl rfl (v := (.tuple #[q.v, (.bool true)])) (g_callM (fun w hM => hrd w _ (hM.get 1 rfl)) rfl rfl rfl Tryd.func29 nm29 bd29) (fun w hM => ?_)
          refine T_nil ?_
          refine any_1 (i1 := 3) (by kernel_rfl) ?_
          refine U_op rfl ?_
          refine T_val 5 hn hM rfl rfl rfl (v := (.tuple #[q.v, (.bool true)])) (g_move rfl rfl) ?_
          refine T_nil ?_
          refine any_2 (i1 := 4) (i2 := 5) (by kernel_rfl) ?_ ?_
          · skip
            refine U_op rfl ?_
            refine T_val 9 hn hM rfl rfl rfl (v := q.v) (g_extract rfl rfl rfl) ?_
            refine T_nil ?_
            refine any_2 (i1 := 5) (i2 := 7) (by kernel_rfl) ?_ ?_
            · skip
              refine U_op rfl ?_
              refine T_val 10 hn hM rfl rfl rfl (v := (.bool true)) (g_extract rfl rfl rfl) ?_
              refine T_nil ?_
              refine any_1 (i1 := 7) (by kernel_rfl) ?_
              refine U_op rfl ?_
              refine T_store 0 hn hM rfl rfl rfl rfl rfl rfl rfl (c' := #[(.int .u64 q.x.l0), (.int .u64 q.x.l1), (.int .u64 q.x.l2), (.int .u64 q.x.l3), (.int .u64 q.x.l4), (.int .u64 q.y.l0), (.int .u64 q.y.l1), (.int .u64 q.y.l2), (.int .u64 q.y.l3), (.int .u64 q.y.l4), (.int .u64 q.z.l0), (.int .u64 q.z.l1), (.int .u64 q.z.l2), (.int .u64 q.z.l3), (.int .u64 q.z.l4), (.int .u64 q.t.l0), (.int .u64 q.t.l1), (.int .u64 q.t.l2), (.int .u64 q.t.l3), (.int .u64 q.t.l4)]) (sets_row sz49 rfl rfl rfl) (fun w hM => ?_)
              replace hM : Mem _ _ w [⟨b17, #[(.int .u64 q.x.l0), (.int .u64 q.x.l1), (.int .u64 q.x.l2), (.int .u64 q.x.l3), (.int .u64 q.x.l4), (.int .u64 q.y.l0), (.int .u64 q.y.l1), (.int .u64 q.y.l2), (.int .u64 q.y.l3), (.int .u64 q.y.l4), (.int .u64 q.z.l0), (.int .u64 q.z.l1), (.int .u64 q.z.l2), (.int .u64 q.z.l3), (.int .u64 q.z.l4), (.int .u64 q.t.l0), (.int .u64 q.t.l1), (.int .u64 q.t.l2), (.int .u64 q.t.l3), (.int .u64 q.t.l4)], 49, true⟩, ⟨b10, #[(.int .u64 c.d.l0), (.int .u64 c.d.l1), (.int .u64 c.d.l2), (.int .u64 c.d.l3), (.int .u64 c.d.l4), (.int .u64 c.e.l0), (.int .u64 c.e.l1), (.int .u64 c.e.l2), (.int .u64 c.e.l3), (.int .u64 c.e.l4), (.int .u64 c.x.l0), (.int .u64 c.x.l1), (.int .u64 c.x.l2), (.int .u64 c.x.l3), (.int .u64 c.x.l4), (.int .u64 c.y.l0), (.int .u64 c.y.l1), (.int .u64 c.y.l2), (.int .u64 c.y.l3), (.int .u64 c.y.l4), (.int .u64 c.z.l0), (.int .u64 c.z.l1), (.int .u64 c.z.l2), (.int .u64 c.z.l3), (.int .u64 c.z.l4), (.int .u64 c.t.l0), (.int .u64 c.t.l1), (.int .u64 c.t.l2), (.int .u64 c.t.l3), (.int .u64 c.t.l4)], 55, true⟩, ⟨b0, (arr .u8 32 (dgF 8 s)), 22, true⟩] := hM
              refine T_nil ?_
              refine any_1 (i1 := 8) (by kernel_rfl) ?_
              refine U_op rfl ?_
              refine T_val 4 hn hM rfl rfl rfl (v := (.bool true)) (g_assign rfl rfl) ?_
              refine T_nil ?_
              refine any_done (by kernel_rfl) ?_
              replace hM := hM.sub [] ((.cons _ (.cons _ (.cons _ (List.Sublist.refl _)))))
              exact ⟨rfl, frame_ex [(4, (.bool true))] hn hdf rfl rfl ⟨rfl, trivial⟩ hM⟩
            · skip
              refine U_op rfl ?_
              refine T_store 0 hn hM rfl rfl rfl rfl rfl rfl rfl (c' := #[(.int .u64 q.x.l0), (.int .u64 q.x.l1), (.int .u64 q.x.l2), (.int .u64 q.x.l3), (.int .u64 q.x.l4), (.int .u64 q.y.l0), (.int .u64 q.y.l1), (.int .u64 q.y.l2), (.int .u64 q.y.l3), (.int .u64 q.y.l4), (.int .u64 q.z.l0), (.int .u64 q.z.l1), (.int .u64 q.z.l2), (.int .u64 q.z.l3), (.int .u64 q.z.l4), (.int .u64 q.t.l0), (.int .u64 q.t.l1), (.int .u64 q.t.l2), (.int .u64 q.t.l3), (.int .u64 q.t.l4)]) (sets_row sz49 rfl rfl rfl) (fun w hM => ?_)
              replace hM : Mem _ _ w [⟨b17, #[(.int .u64 q.x.l0), (.int .u64 q.x.l1), (.int .u64 q.x.l2), (.int .u64 q.x.l3), (.int .u64 q.x.l4), (.int .u64 q.y.l0), (.int .u64 q.y.l1), (.int .u64 q.y.l2), (.int .u64 q.y.l3), (.int .u64 q.y.l4), (.int .u64 q.z.l0), (.int .u64 q.z.l1), (.int .u64 q.z.l2), (.int .u64 q.z.l3), (.int .u64 q.z.l4), (.int .u64 q.t.l0), (.int .u64 q.t.l1), (.int .u64 q.t.l2), (.int .u64 q.t.l3), (.int .u64 q.t.l4)], 49, true⟩, ⟨b10, #[(.int .u64 c.d.l0), (.int .u64 c.d.l1), (.int .u64 c.d.l2), (.int .u64 c.d.l3), (.int .u64 c.d.l4), (.int .u64 c.e.l0), (.int .u64 c.e.l1), (.int .u64 c.e.l2), (.int .u64 c.e.l3), (.int .u64 c.e.l4), (.int .u64 c.x.l0), (.int .u64 c.x.l1), (.int .u64 c.x.l2), (.int .u64 c.x.l3), (.int .u64 c.x.l4), (.int .u64 c.y.l0), (.int .u64 c.y.l1), (.int .u64 c.y.l2), (.int .u64 c.y.l3), (.int .u64 c.y.l4), (.int .u64 c.z.l0), (.int .u64 c.z.l1), (.int .u64 c.z.l2), (.int .u64 c.z.l3), (.int .u64 c.z.l4), (.int .u64 c.t.l0), (.int .u64 c.t.l1), (.int .u64 c.t.l2), (.int .u64 c.t.l3), (.int .u64 c.t.l4)], 55, true⟩, ⟨b0, (arr .u8 32 (dgF 8 s)), 22, true⟩] := hM
              refine T_nil ?_
              refine any_1 (i1 := 5) (by kernel_rfl) ?_
              refine U_op rfl ?_
              refine T_val 10 hn hM rfl rfl rfl (v := (.bool true)) (g_extract rfl rfl rfl) ?_
              refine T_nil ?_
              refine any_1 (i1 := 8) (by kernel_rfl) ?_
              refine U_op rfl ?_
              refine T_val 4 hn hM rfl rfl rfl (v := (.bool true)) (g_assign rfl rfl) ?_
              refine T_nil ?_
              refine any_done (by kernel_rfl) ?_
              replace hM := hM.sub [] ((.cons _ (.cons _ (.cons _ (List.Sublist.refl _)))))
              exact ⟨rfl, frame_ex [(4, (.bool true))] hn hdf rfl rfl ⟨rfl, trivial⟩ hM⟩
          · skip
            refine U_op rfl ?_
            refine T_val 10 hn hM rfl rfl rfl (v := (.bool true)) (g_extract rfl rfl rfl) ?_
            refine T_nil ?_
            refine any_1 (i1 := 4) (by kernel_rfl) ?_
            refine U_op rfl ?_
            refine T_val 9 hn hM rfl rfl rfl (v := q.v) (g_extract rfl rfl rfl) ?_
            refine T_nil ?_
            refine any_1 (i1 := 7) (by kernel_rfl) ?_
            refine U_op rfl ?_
            refine T_store 0 hn hM rfl rfl rfl rfl rfl rfl rfl (c' := #[(.int .u64 q.x.l0), (.int .u64 q.x.l1), (.int .u64 q.x.l2), (.int .u64 q.x.l3), (.int .u64 q.x.l4), (.int .u64 q.y.l0), (.int .u64 q.y.l1), (.int .u64 q.y.l2), (.int .u64 q.y.l3), (.int .u64 q.y.l4), (.int .u64 q.z.l0), (.int .u64 q.z.l1), (.int .u64 q.z.l2), (.int .u64 q.z.l3), (.int .u64 q.z.l4), (.int .u64 q.t.l0), (.int .u64 q.t.l1), (.int .u64 q.t.l2), (.int .u64 q.t.l3), (.int .u64 q.t.l4)]) (sets_row sz49 rfl rfl rfl) (fun w hM => ?_)
            replace hM : Mem _ _ w [⟨b17, #[(.int .u64 q.x.l0), (.int .u64 q.x.l1), (.int .u64 q.x.l2), (.int .u64 q.x.l3), (.int .u64 q.x.l4), (.int .u64 q.y.l0), (.int .u64 q.y.l1), (.int .u64 q.y.l2), (.int .u64 q.y.l3), (.int .u64 q.y.l4), (.int .u64 q.z.l0), (.int .u64 q.z.l1), (.int .u64 q.z.l2), (.int .u64 q.z.l3), (.int .u64 q.z.l4), (.int .u64 q.t.l0), (.int .u64 q.t.l1), (.int .u64 q.t.l2), (.int .u64 q.t.l3), (.int .u64 q.t.l4)], 49, true⟩, ⟨b10, #[(.int .u64 c.d.l0), (.int .u64 c.d.l1), (.int .u64 c.d.l2), (.int .u64 c.d.l3), (.int .u64 c.d.l4), (.int .u64 c.e.l0), (.int .u64 c.e.l1), (.int .u64 c.e.l2), (.int .u64 c.e.l3), (.int .u64 c.e.l4), (.int .u64 c.x.l0), (.int .u64 c.x.l1), (.int .u64 c.x.l2), (.int .u64 c.x.l3), (.int .u64 c.x.l4), (.int .u64 c.y.l0), (.int .u64 c.y.l1), (.int .u64 c.y.l2), (.int .u64 c.y.l3), (.int .u64 c.y.l4), (.int .u64 c.z.l0), (.int .u64 c.z.l1), (.int .u64 c.z.l2), (.int .u64 c.z.l3), (.int .u64 c.z.l4), (.int .u64 c.t.l0), (.int .u64 c.t.l1), (.int .u64 c.t.l2), (.int .u64 c.t.l3), (.int .u64 c.t.l4)], 55, true⟩, ⟨b0, (arr .u8 32 (dgF 8 s)), 22, true⟩] := hM
            refine T_nil ?_
            refine any_1 (i1 := 8) (by kernel_rfl) ?_
            refine U_op rfl ?_
            refine T_val 4 hn hM rfl rfl rfl (v := (.bool true)) (g_assign rfl rfl) ?_
            refine T_nil ?_
            refine any_done (by kernel_rfl) ?_
            replace hM := hM.sub [] ((.cons _ (.cons _ (.cons _ (List.Sublist.refl _)))))
            exact ⟨rfl, frame_ex [(4, (.bool true))] hn hdf rfl rfl ⟨rfl, trivial⟩ hM⟩
      · skip
        refine U_op rfl ?_
        refine T_alloc 3 hn hM rfl rfl rfl rfl Tryd.zeroValue49 #[(.int .u64 0), (.int .u64 0), (.int .u64 0), (.int .u64 0), (.int .u64 0), (.int .u64 0), (.int .u64 0), (.int .u64 0), (.int .u64 0), (.int .u64 0), (.int .u64 0), (.int .u64 0), (.int .u64 0), (.int .u64 0), (.int .u64 0), (.int .u64 0), (.int .u64 0), (.int .u64 0), (.int .u64 0), (.int .u64 0)] rfl (fun b18 w hM => ?_)
        refine T_nil ?_
        refine any_1 (i1 := 0) (by kernel_rfl) ?_
        refine U_op rfl ?_
        refine T_callN 6 hn hM rfl rfl rfl rfl rfl Tryd.func19 nm19 bd19 (hbeg w) (fun b19 w hM => ?_)
        refine T_nil ?_
        refine any_1 (i1 := 2) (by kernel_rfl) ?_
        refine U_op rfl ?_
        refine T_call 8 hn hM rfl rfl rfl (v := (.tuple #[q.v, (.bool true)])) (g_callM (fun w hM => hrd w _ (hM.get 0 rfl)) rfl rfl rfl Tryd.func29 nm29 bd29) (fun w hM => ?_)
        refine T_nil ?_
        refine any_1 (i1 := 3) (by kernel_rfl) ?_
        refine U_op rfl ?_
        refine T_val 5 hn hM rfl rfl rfl (v := (.tuple #[q.v, (.bool true)])) (g_move rfl rfl) ?_
        refine T_nil ?_
        refine any_2 (i1 := 4) (i2 := 5) (by kernel_rfl) ?_ ?_
        · skip
          refine U_op rfl ?_
          refine T_val 9 hn hM rfl rfl rfl (v := q.v) (g_extract rfl rfl rfl) ?_
          refine T_nil ?_
          refine any_2 (i1 := 5) (i2 := 7) (by kernel_rfl) ?_ ?_
          · skip
            refine U_op rfl ?_
            refine T_val 10 hn hM rfl rfl rfl (v := (.bool true)) (g_extract rfl rfl rfl) ?_
            refine T_nil ?_
            refine any_1 (i1 := 7) (by kernel_rfl) ?_
            refine U_op rfl ?_
            refine T_store 1 hn hM rfl rfl rfl rfl rfl rfl rfl (c' := #[(.int .u64 q.x.l0), (.int .u64 q.x.l1), (.int .u64 q.x.l2), (.int .u64 q.x.l3), (.int .u64 q.x.l4), (.int .u64 q.y.l0), (.int .u64 q.y.l1), (.int .u64 q.y.l2), (.int .u64 q.y.l3), (.int .u64 q.y.l4), (.int .u64 q.z.l0), (.int .u64 q.z.l1), (.int .u64 q.z.l2), (.int .u64 q.z.l3), (.int .u64 q.z.l4), (.int .u64 q.t.l0), (.int .u64 q.t.l1), (.int .u64 q.t.l2), (.int .u64 q.t.l3), (.int .u64 q.t.l4)]) (sets_row sz49 rfl rfl rfl) (fun w hM => ?_)
            replace hM : Mem _ _ w [⟨b19, #[(.int .u64 c.d.l0), (.int .u64 c.d.l1), (.int .u64 c.d.l2), (.int .u64 c.d.l3), (.int .u64 c.d.l4), (.int .u64 c.e.l0), (.int .u64 c.e.l1), (.int .u64 c.e.l2), (.int .u64 c.e.l3), (.int .u64 c.e.l4), (.int .u64 c.x.l0), (.int .u64 c.x.l1), (.int .u64 c.x.l2), (.int .u64 c.x.l3), (.int .u64 c.x.l4), (.int .u64 c.y.l0), (.int .u64 c.y.l1), (.int .u64 c.y.l2), (.int .u64 c.y.l3), (.int .u64 c.y.l4), (.int .u64 c.z.l0), (.int .u64 c.z.l1), (.int .u64 c.z.l2), (.int .u64 c.z.l3), (.int .u64 c.z.l4), (.int .u64 c.t.l0), (.int .u64 c.t.l1), (.int .u64 c.t.l2), (.int .u64 c.t.l3), (.int .u64 c.t.l4)], 55, true⟩, ⟨b18, #[(.int .u64 q.x.l0), (.int .u64 q.x.l1), (.int .u64 q.x.l2), (.int .u64 q.x.l3), (.int .u64 q.x.l4), (.int .u64 q.y.l0), (.int .u64 q.y.l1), (.int .u64 q.y.l2), (.int .u64 q.y.l3), (.int .u64 q.y.l4), (.int .u64 q.z.l0), (.int .u64 q.z.l1), (.int .u64 q.z.l2), (.int .u64 q.z.l3), (.int .u64 q.z.l4), (.int .u64 q.t.l0), (.int .u64 q.t.l1), (.int .u64 q.t.l2), (.int .u64 q.t.l3), (.int .u64 q.t.l4)], 49, true⟩, ⟨b0, (arr .u8 32 (dgF 8 s)), 22, true⟩] := hM
            refine T_nil ?_
            refine any_1 (i1 := 8) (by kernel_rfl) ?_
            refine U_op rfl ?_
            refine T_val 4 hn hM rfl rfl rfl (v := (.bool true)) (g_assign rfl rfl) ?_
            refine T_nil ?_
            refine any_done (by kernel_rfl) ?_
            replace hM := hM.sub [] ((.cons _ (.cons _ (.cons _ (List.Sublist.refl _)))))
            exact ⟨rfl, frame_ex [(4, (.bool true))] hn hdf rfl rfl ⟨rfl, trivial⟩ hM⟩
          · skip
            refine U_op rfl ?_
            refine T_store 1 hn hM rfl rfl rfl rfl rfl rfl rfl (c' := #[(.int .u64 q.x.l0), (.int .u64 q.x.l1), (.int .u64 q.x.l2), (.int .u64 q.x.l3), (.int .u64 q.x.l4), (.int .u64 q.y.l0), (.int .u64 q.y.l1), (.int .u64 q.y.l2), (.int .u64 q.y.l3), (.int .u64 q.y.l4), (.int .u64 q.z.l0), (.int .u64 q.z.l1), (.int .u64 q.z.l2), (.int .u64 q.z.l3), (.int .u64 q.z.l4), (.int .u64 q.t.l0), (.int .u64 q.t.l1), (.int .u64 q.t.l2), (.int .u64 q.t.l3), (.int .u64 q.t.l4)]) (sets_row sz49 rfl rfl rfl) (fun w hM => ?_)
            replace hM : Mem _ _ w [⟨b19, #[(.int .u64 c.d.l0), (.int .u64 c.d.l1), (.int .u64 c.d.l2), (.int .u64 c.d.l3), (.int .u64 c.d.l4), (.int .u64 c.e.l0), (.int .u64 c.e.l1), (.int .u64 c.e.l2), (.int .u64 c.e.l3), (.int .u64 c.e.l4), (.int .u64 c.x.l0), (.int .u64 c.x.l1), (.int .u64 c.x.l2), (.int .u64 c.x.l3), (.int .u64 c.x.l4), (.int .u64 c.y.l0), (.int .u64 c.y.l1), (.int .u64 c.y.l2), (.int .u64 c.y.l3), (.int .u64 c.y.l4), (.int .u64 c.z.l0), (.int .u64 c.z.l1), (.int .u64 c.z.l2), (.int .u64 c.z.l3), (.int .u64 c.z.l4), (.int .u64 c.t.l0), (.int .u64 c.t.l1), (.int .u64 c.t.l2), (.int .u64 c.t.l3), (.int .u64 c.t.l4)], 55, true⟩, ⟨b18, #[(.int .u64 q.x.l0), (.int .u64 q.x.l1), (.int .u64 q.x.l2), (.int .u64 q.x.l3), (.int .u64 q.x.l4), (.int .u64 q.y.l0), (.int .u64 q.y.l1), (.int .u64 q.y.l2), (.int .u64 q.y.l3), (.int .u64 q.y.l4), (.int .u64 q.z.l0), (.int .u64 q.z.l1), (.int .u64 q.z.l2), (.int .u64 q.z.l3), (.int .u64 q.z.l4), (.int .u64 q.t.l0), (.int .u64 q.t.l1), (.int .u64 q.t.l2), (.int .u64 q.t.l3), (.int .u64 q.t.l4)], 49, true⟩, ⟨b0, (arr .u8 32 (dgF 8 s)), 22, true⟩] := hM
            refine T_nil ?_
            refine any_1 (i1 := 5) (by kernel_rfl) ?_
            refine U_op rfl ?_
            refine T_val 10 hn hM rfl rfl rfl (v := (.bool true)) (g_extract rfl rfl rfl) ?_
            refine T_nil ?_
            refine any_1 (i1 := 8) (by kernel_rfl) ?_
            refine U_op rfl ?_
            refine T_val 4 hn hM rfl rfl rfl (v := (.bool true)) (g_assign rfl rfl) ?_
            refine T_nil ?_
            refine any_done (by kernel_rfl) ?_
            replace hM := hM.sub [] ((.cons _ (.cons _ (.cons _ (List.Sublist.refl _)))))
            exact ⟨rfl, frame_ex [(4, (.bool true))] hn hdf rfl rfl ⟨rfl, trivial⟩ hM⟩
        · skip
          refine U_op rfl ?_
          refine T_val 10 hn hM rfl rfl rfl (v := (.bool true)) (g_extract rfl rfl rfl) ?_
          refine T_nil ?_
          refine any_1 (i1 := 4) (by kernel_rfl) ?_
          refine U_op rfl ?_
          refine T_val 9 hn hM rfl rfl rfl (v := q.v) (g_extract rfl rfl rfl) ?_
          refine T_nil ?_
          refine any_1 (i1 := 7) (by kernel_rfl) ?_
          refine U_op rfl ?_
          refine T_store 1 hn hM rfl rfl rfl rfl rfl rfl rfl (c' := #[(.int .u64 q.x.l0), (.int .u64 q.x.l1), (.int .u64 q.x.l2), (.int .u64 q.x.l3), (.int .u64 q.x.l4), (.int .u64 q.y.l0), (.int .u64 q.y.l1), (.int .u64 q.y.l2), (.int .u64 q.y.l3), (.int .u64 q.y.l4), (.int .u64 q.z.l0), (.int .u64 q.z.l1), (.int .u64 q.z.l2), (.int .u64 q.z.l3), (.int .u64 q.z.l4), (.int .u64 q.t.l0), (.int .u64 q.t.l1), (.int .u64 q.t.l2), (.int .u64 q.t.l3), (.int .u64 q.t.l4)]) (sets_row sz49 rfl rfl rfl) (fun w hM => ?_)
          replace hM : Mem _ _ w [⟨b19, #[(.int .u64 c.d.l0), (.int .u64 c.d.l1), (.int .u64 c.d.l2), (.int .u64 c.d.l3), (.int .u64 c.d.l4), (.int .u64 c.e.l0), (.int .u64 c.e.l1), (.int .u64 c.e.l2), (.int .u64 c.e.l3), (.int .u64 c.e.l4), (.int .u64 c.x.l0), (.int .u64 c.x.l1), (.int .u64 c.x.l2), (.int .u64 c.x.l3), (.int .u64 c.x.l4), (.int .u64 c.y.l0), (.int .u64 c.y.l1), (.int .u64 c.y.l2), (.int .u64 c.y.l3), (.int .u64 c.y.l4), (.int .u64 c.z.l0), (.int .u64 c.z.l1), (.int .u64 c.z.l2), (.int .u64 c.z.l3), (.int .u64 c.z.l4), (.int .u64 c.t.l0), (.int .u64 c.t.l1), (.int .u64 c.t.l2), (.int .u64 c.t.l3), (.int .u64 c.t.l4)], 55, true⟩, ⟨b18, #[(.int .u64 q.x.l0), (.int .u64 q.x.l1), (.int .u64 q.x.l2), (.int .u64 q.x.l3), (.int .u64 q.x.l4), (.int .u64 q.y.l0), (.int .u64 q.y.l1), (.int .u64 q.y.l2), (.int .u64 q.y.l3), (.int .u64 q.y.l4), (.int .u64 q.z.l0), (.int .u64 q.z.l1), (.int .u64 q.z.l2), (.int .u64 q.z.l3), (.int .u64 q.z.l4), (.int .u64 q.t.l0), (.int .u64 q.t.l1), (.int .u64 q.t.l2), (.int .u64 q.t.l3), (.int .u64 q.t.l4)], 49, true⟩, ⟨b0, (arr .u8 32 (dgF 8 s)), 22, true⟩] := hM
          refine T_nil ?_
          refine any_1 (i1 := 8) (by kernel_rfl) ?_
          refine U_op rfl ?_
          refine T_val 4 hn hM rfl rfl rfl (v := (.bool true)) (g_assign rfl rfl) ?_
          refine T_nil ?_
          refine any_done (by kernel_rfl) ?_
          replace hM := hM.sub [] ((.cons _ (.cons _ (.cons _ (List.Sublist.refl _)))))
          exact ⟨rfl, frame_ex [(4, (.bool true))] hn hdf rfl rfl ⟨rfl, trivial⟩ hM⟩
    · skip
      refine U_op rfl ?_
      refine T_alloc 3 hn hM rfl rfl rfl rfl Tryd.zeroValue49 #[(.int .u64 0), (.int .u64 0), (.int .u64 0), (.int .u64 0), (.int .u64 0), (.int .u64 0), (.int .u64 0), (.int .u64 0), (.int .u64 0), (.int .u64 0), (.int .u64 0), (.int .u64 0), (.int .u64 0), (.int .u64 0), (.int .u64 0), (.int .u64 0), (.int .u64 0), (.int .u64 0), (.int .u64 0), (.int .u64 0)] rfl (fun b20 w hM => ?_)
      refine T_nil ?_
      refine any_2 (i1 := 0) (i2 := 1) (by kernel_rfl) ?_ ?_
      · skip
        refine U_op rfl ?_
        refine T_callN 6 hn hM rfl rfl rfl rfl rfl Tryd.func19 nm19 bd19 (hbeg w) (fun b21 w hM => ?_)
        refine T_nil ?_
        refine any_1 (i1 := 1) (by kernel_rfl) ?_
        refine U_op rfl ?_
        refine T_val 7 hn hM rfl rfl rfl (v := (.agg (arr .u8 32 (dgF 8 s)))) (g_loadAll 2 rfl rfl rfl Tryd.underlying22 rfl (by rw [arr_len]; exact sz22)) ?_
        refine T_nil ?_
        refine any_1 (i1 := 2) (by kernel_rfl) ?_
        refine U_op rfl ?_
        refine T_call 8 hn hM rfl rfl rfl (v := (.tuple #[q.v, (.bool true)])) (g_callM (fun w hM => hrd w _ (hM.get 0 rfl)) rfl rfl rfl Tryd.func29 nm29 bd29) (fun w hM => ?_)
        refine T_nil ?_
        refine any_1 (i1 := 3) (by kernel_rfl) ?_
        refine U_op rfl ?_
        refine T_val 5 hn hM rfl rfl rfl (v := (.tuple #[q.v, (.bool true)])) (g_move rfl rfl) ?_
        refine T_nil ?_
        refine any_2 (i1 := 4) (i2 := 5) (by kernel_rfl) ?_ ?_
        · skip
          refine U_op rfl ?_
          refine T_val 9 hn hM rfl rfl rfl (v := q.v) (g_extract rfl rfl rfl) ?_
          refine T_nil ?_
          refine any_2 (i1 := 5) (i2 := 7) (by kernel_rfl) ?_ ?_
          · skip
            refine U_op rfl ?_
            refine T_val 10 hn hM rfl rfl rfl (v := (.bool true)) (g_extract rfl rfl rfl) ?_
            refine T_nil ?_
            refine any_1 (i1 := 7) (by kernel_rfl) ?_
            refine U_op rfl ?_
            refine T_store 1 hn hM rfl rfl rfl rfl rfl rfl rfl (c' := #[(.int .u64 q.x.l0), (.int .u64 q.x.l1), (.int .u64 q.x.l2), (.int .u64 q.x.l3), (.int .u64 q.x.l4), (.int .u64 q.y.l0), (.int .u64 q.y.l1), (.int .u64 q.y.l2), (.int .u64 q.y.l3), (.int .u64 q.y.l4), (.int .u64 q.z.l0), (.int .u64 q.z.l1), (.int .u64 q.z.l2), (.int .u64 q.z.l3), (.int .u64 q.z.l4), (.int .u64 q.t.l0), (.int .u64 q.t.l1), (.int .u64 q.t.l2), (.int .u64 q.t.l3), (.int .u64 q.t.l4)]) (sets_row sz49 rfl rfl rfl) (fun w hM => ?_)
            replace hM : Mem _ _ w [⟨b21, #[(.int .u64 c.d.l0), (.int .u64 c.d.l1), (.int .u64 c.d.l2), (.int .u64 c.d.l3), (.int .u64 c.d.l4), (.int .u64 c.e.l0), (.int .u64 c.e.l1), (.int .u64 c.e.l2), (.int .u64 c.e.l3), (.int .u64 c.e.l4), (.int .u64 c.x.l0), (.int .u64 c.x.l1), (.int .u64 c.x.l2), (.int .u64 c.x.l3), (.int .u64 c.x.l4), (.int .u64 c.y.l0), (.int .u64 c.y.l1), (.int .u64 c.y.l2), (.int .u64 c.y.l3), (.int .u64 c.y.l4), (.int .u64 c.z.l0), (.int .u64 c.z.l1), (.int .u64 c.z.l2), (.int .u64 c.z.l3), (.int .u64 c.z.l4), (.int .u64 c.t.l0), (.int .u64 c.t.l1), (.int .u64 c.t.l2), (.int .u64 c.t.l3), (.int .u64 c.t.l4)], 55, true⟩, ⟨b20, #[(.int .u64 q.x.l0), (.int .u64 q.x.l1), (.int .u64 q.x.l2), (.int .u64 q.x.l3), (.int .u64 q.x.l4), (.int .u64 q.y.l0), (.int .u64 q.y.l1), (.int .u64 q.y.l2), (.int .u64 q.y.l3), (.int .u64 q.y.l4), (.int .u64 q.z.l0), (.int .u64 q.z.l1), (.int .u64 q.z.l2), (.int .u64 q.z.l3), (.int .u64 q.z.l4), (.int .u64 q.t.l0), (.int .u64 q.t.l1), (.int .u64 q.t.l2), (.int .u64 q.t.l3), (.int .u64 q.t.l4)], 49, true⟩, ⟨b0, (arr .u8 32 (dgF 8 s)), 22, true⟩] := hM
            refine T_nil ?_
            refine any_1 (i1 := 8) (by kernel_rfl) ?_
            refine U_op rfl ?_
            refine T_val 4 hn hM rfl rfl rfl (v := (.bool true)) (g_assign rfl rfl) ?_
            refine T_nil ?_
            refine any_done (by kernel_rfl) ?_
            replace hM := hM.sub [] ((.cons _ (.cons _ (.cons _ (List.Sublist.refl _)))))
            exact ⟨rfl, frame_ex [(4, (.bool true))] hn hdf rfl rfl ⟨rfl, trivial⟩ hM⟩
          · skip
            refine U_op rfl ?_
            refine T_store 1 hn hM rfl rfl rfl rfl rfl rfl rfl (c' := #[(.int .u64 q.x.l0), (.int .u64 q.x.l1), (.int .u64 q.x.l2), (.int .u64 q.x.l3), (.int .u64 q.x.l4), (.int .u64 q.y.l0), (.int .u64 q.y.l1), (.int .u64 q.y.l2), (.int .u64 q.y.l3), (.int .u64 q.y.l4), (.int .u64 q.z.l0), (.int .u64 q.z.l1), (.int .u64 q.z.l2), (.int .u64 q.z.l3), (.int .u64 q.z.l4), (.int .u64 q.t.l0), (.int .u64 q.t.l1), (.int .u64 q.t.l2), (.int .u64 q.t.l3), (.int .u64 q.t.l4)]) (sets_row sz49 rfl rfl rfl) (fun w hM => ?_)
            replace hM : Mem _ _ w [⟨b21, #[(.int .u64 c.d.l0), (.int .u64 c.d.l1), (.int .u64 c.d.l2), (.int .u64 c.d.l3), (.int .u64 c.d.l4), (.int .u64 c.e.l0), (.int .u64 c.e.l1), (.int .u64 c.e.l2), (.int .u64 c.e.l3), (.int .u64 c.e.l4), (.int .u64 c.x.l0), (.int .u64 c.x.l1), (.int .u64 c.x.l2), (.int .u64 c.x.l3), (.int .u64 c.x.l4), (.int .u64 c.y.l0), (.int .u64 c.y.l1), (.int .u64 c.y.l2), (.int .u64 c.y.l3), (.int .u64 c.y.l4), (.int .u64 c.z.l0), (.int .u64 c.z.l1), (.int .u64 c.z.l2), (.int .u64 c.z.l3), (.int .u64 c.z.l4), (.int .u64 c.t.l0), (.int .u64 c.t.l1), (.int .u64 c.t.l2), (.int .u64 c.t.l3), (.int .u64 c.t.l4)], 55, true⟩, ⟨b20, #[(.int .u64 q.x.l0), (.int .u64 q.x.l1), (.int .u64 q.x.l2), (.int .u64 q.x.l3), (.int .u64 q.x.l4), (.int .u64 q.y.l0), (.int .u64 q.y.l1), (.int .u64 q.y.l2), (.int .u64 q.y.l3), (.int .u64 q.y.l4), (.int .u64 q.z.l0), (.int .u64 q.z.l1), (.int .u64 q.z.l2), (.int .u64 q.z.l3), (.int .u64 q.z.l4), (.int .u64 q.t.l0), (.int .u64 q.t.l1), (.int .u64 q.t.l2), (.int .u64 q.t.l3), (.int .u64 q.t.l4)], 49, true⟩, ⟨b0, (arr .u8 32 (dgF 8 s)), 22, true⟩] := hM
            refine T_nil ?_
            refine any_1 (i1 := 5) (by kernel_rfl) ?_
            refine U_op rfl ?_
            refine T_val 10 hn hM rfl rfl rfl (v := (.bool true)) (g_extract rfl rfl rfl) ?_
            refine T_nil ?_
            refine any_1 (i1 := 8) (by kernel_rfl) ?_
            refine U_op rfl ?_
            refine T_val 4 hn hM rfl rfl rfl (v := (.bool true)) (g_assign rfl rfl) ?_
            refine T_nil ?_
            refine any_done (by kernel_rfl) ?_
            replace hM := hM.sub [] ((.cons _ (.cons _ (.cons _ (List.Sublist.refl _)))))
            exact ⟨rfl, frame_ex [(4, (.bool true))] hn hdf rfl rfl ⟨rfl, trivial⟩ hM⟩
        · skip
          refine U_op rfl ?_
          refine T_val 10 hn hM rfl rfl rfl (v := (.bool true)) (g_extract rfl rfl rfl) ?_
          refine T_nil ?_
          refine any_1 (i1 := 4) (by kernel_rfl) ?_
          refine U_op rfl ?_
          refine T_val 9 hn hM rfl rfl rfl (v := q.v) (g_extract rfl rfl rfl) ?_
          refine T_nil ?_
          refine any_1 (i1 := 7) (by kernel_rfl) ?_
          refine U_op rfl ?_
          refine T_store 1 hn hM rfl rfl rfl rfl rfl rfl rfl (c' := #[(.int .u64 q.x.l0), (.int .u64 q.x.l1), (.int .u64 q.x.l2), (.int .u64 q.x.l3), (.int .u64 q.x.l4), (.int .u64 q.y.l0), (.int .u64 q.y.l1), (.int .u64 q.y.l2), (.int .u64 q.y.l3), (.int .u64 q.y.l4), (.int .u64 q.z.l0), (.int .u64 q.z.l1), (.int .u64 q.z.l2), (.int .u64 q.z.l3), (.int .u64 q.z.l4), (.int .u64 q.t.l0), (.int .u64 q.t.l1), (.int .u64 q.t.l2), (.int .u64 q.t.l3), (.int .u64 q.t.l4)]) (sets_row sz49 rfl rfl rfl) (fun w hM => ?_)
          replace hM : Mem _ _ w [⟨b21, #[(.int .u64 c.d.l0), (.int .u64 c.d.l1), (.int .u64 c.d.l2), (.int .u64 c.d.l3), (.int .u64 c.d.l4), (.int .u64 c.e.l0), (.int .u64 c.e.l1), (.int .u64 c.e.l2), (.int .u64 c.e.l3), (.int .u64 c.e.l4), (.int .u64 c.x.l0), (.int .u64 c.x.l1), (.int .u64 c.x.l2), (.int .u64 c.x.l3), (.int .u64 c.x.l4), (.int .u64 c.y.l0), (.int .u64 c.y.l1), (.int .u64 c.y.l2), (.int .u64 c.y.l3), (.int .u64 c.y.l4), (.int .u64 c.z.l0), (.int .u64 c.z.l1), (.int .u64 c.z.l2), (.int .u64 c.z.l3), (.int .u64 c.z.l4), (.int .u64 c.t.l0), (.int .u64 c.t.l1), (.int .u64 c.t.l2), (.int .u64 c.t.l3), (.int .u64 c.t.l4)], 55, true⟩, ⟨b20, #[(.int .u64 q.x.l0), (.int .u64 q.x.l1), (.int .u64 q.x.l2), (.int .u64 q.x.l3), (.int .u64 q.x.l4), (.int .u64 q.y.l0), (.int .u64 q.y.l1), (.int .u64 q.y.l2), (.int .u64 q.y.l3), (.int .u64 q.y.l4), (.int .u64 q.z.l0), (.int .u64 q.z.l1), (.int .u64 q.z.l2), (.int .u64 q.z.l3), (.int .u64 q.z.l4), (.int .u64 q.t.l0), (.int .u64 q.t.l1), (.int .u64 q.t.l2), (.int .u64 q.t.l3), (.int .u64 q.t.l4)], 49, true⟩, ⟨b0, (arr .u8 32 (dgF 8 s)), 22, true⟩] := hM
          refine T_nil ?_
          refine any_1 (i1 := 8) (by kernel_rfl) ?_
          refine U_op rfl ?_
          refine T_val 4 hn hM rfl rfl rfl (v := (.bool true)) (g_assign rfl rfl) ?_
          refine T_nil ?_
          refine any_done (by kernel_rfl) ?_
          replace hM := hM.sub [] ((.cons _ (.cons _ (.cons _ (List.Sublist.refl _)))))
          exact ⟨rfl, frame_ex [(4, (.bool true))] hn hdf rfl rfl ⟨rfl, trivial⟩ hM⟩
      · skip
        refine U_op rfl ?_
        refine T_val 7 hn hM rfl rfl rfl (v := (.agg (arr .u8 32 (dgF 8 s)))) (g_loadAll 1 rfl rfl rfl Tryd.underlying22 rfl (by rw [arr_len]; exact sz22)) ?_
        refine T_nil ?_
        refine any_1 (i1 := 0) (by kernel_rfl) ?_
        refine U_op rfl ?_
        refine T_callN 6 hn hM rfl rfl rfl rfl rfl Tryd.func19 nm19 bd19 (hbeg w) (fun b22 w hM => ?_)
        refine T_nil ?_
        refine any_1 (i1 := 2) (by kernel_rfl) ?_
        refine U_op rfl ?_
        refine T_call 8 hn hM rfl rfl rfl (v := (.tuple #[q.v, (.bool true)])) (g_callM (fun w hM => hrd w _ (hM.get 0 rfl)) rfl rfl rfl Tryd.func29 nm29 bd29) (fun w hM => ?_)
        refine T_nil ?_
        refine any_1 (i1 := 3) (by kernel_rfl) ?_
        refine U_op rfl ?_
        refine T_val 5 hn hM rfl rfl rfl (v := (.tuple #[q.v, (.bool true)])) (g_move rfl rfl) ?_
        refine T_nil ?_
        refine any_2 (i1 := 4) (i2 := 5) (by kernel_rfl) ?_ ?_
        · skip
          refine U_op rfl ?_
          refine T_val 9 hn hM rfl rfl rfl (v := q.v) (g_extract rfl rfl rfl) ?_
          refine T_nil ?_
          refine any_2 (i1 := 5) (i2 := 7) (by kernel_rfl) ?_ ?_
          · skip
            refine U_op rfl ?_
            refine T_val 10 hn hM rfl rfl rfl (v := (.bool true)) (g_extract rfl rfl rfl) ?_
            refine T_nil ?_
            refine any_1 (i1 := 7) (by kernel_rfl) ?_
            refine U_op rfl ?_
            refine T_store 1 hn hM rfl rfl rfl rfl rfl rfl rfl (c' := #[(.int .u64 q.x.l0), (.int .u64 q.x.l1), (.int .u64 q.x.l2), (.int .u64 q.x.l3), (.int .u64 q.x.l4), (.int .u64 q.y.l0), (.int .u64 q.y.l1), (.int .u64 q.y.l2), (.int .u64 q.y.l3), (.int .u64 q.y.l4), (.int .u64 q.z.l0), (.int .u64 q.z.l1), (.int .u64 q.z.l2), (.int .u64 q.z.l3), (.int .u64 q.z.l4), (.int .u64 q.t.l0), (.int .u64 q.t.l1), (.int .u64 q.t.l2), (.int .u64 q.t.l3), (.int .u64 q.t.l4)]) (sets_row sz49 rfl rfl rfl) (fun w hM => ?_)
            replace hM : Mem _ _ w [⟨b22, #[(.int .u64 c.d.l0), (.int .u64 c.d.l1), (.int .u64 c.d.l2), (.int .u64 c.d.l3), (.int .u64 c.d.l4), (.int .u64 c.e.l0), (.int .u64 c.e.l1), (.int .u64 c.e.l2), (.int .u64 c.e.l3), (.int .u64 c.e.l4), (.int .u64 c.x.l0), (.int .u64 c.x.l1), (.int .u64 c.x.l2), (.int .u64 c.x.l3), (.int .u64 c.x.l4), (.int .u64 c.y.l0), (.int .u64 c.y.l1), (.int .u64 c.y.l2), (.int .u64 c.y.l3), (.int .u64 c.y.l4), (.int .u64 c.z.l0), (.int .u64 c.z.l1), (.int .u64 c.z.l2), (.int .u64 c.z.l3), (.int .u64 c.z.l4), (.int .u64 c.t.l0), (.int .u64 c.t.l1), (.int .u64 c.t.l2), (.int .u64 c.t.l3), (.int .u64 c.t.l4)], 55, true⟩, ⟨b20, #[(.int .u64 q.x.l0), (.int .u64 q.x.l1), (.int .u64 q.x.l2), (.int .u64 q.x.l3), (.int .u64 q.x.l4), (.int .u64 q.y.l0), (.int .u64 q.y.l1), (.int .u64 q.y.l2), (.int .u64 q.y.l3), (.int .u64 q.y.l4), (.int .u64 q.z.l0), (.int .u64 q.z.l1), (.int .u64 q.z.l2), (.int .u64 q.z.l3), (.int .u64 q.z.l4), (.int .u64 q.t.l0), (.int .u64 q.t.l1), (.int .u64 q.t.l2), (.int .u64 q.t.l3), (.int .u64 q.t.l4)], 49, true⟩, ⟨b0, (arr .u8 32 (dgF 8 s)), 22, true⟩] := hM
            refine T_nil ?_
            refine any_1 (i1 := 8) (by kernel_rfl) ?_
            refine U_op rfl ?_
            refine T_val 4 hn hM rfl rfl rfl (v := (.bool true)) (g_assign rfl rfl) ?_
            refine T_nil ?_
            refine any_done (by kernel_rfl) ?_
            replace hM := hM.sub [] ((.cons _ (.cons _ (.cons _ (List.Sublist.refl _)))))
            exact ⟨rfl, frame_ex [(4, (.bool true))] hn hdf rfl rfl ⟨rfl, trivial⟩ hM⟩
          · skip
            refine U_op rfl ?_
            refine T_store 1 hn hM rfl rfl rfl rfl rfl rfl rfl (c' := #[(.int .u64 q.x.l0), (.int .u64 q.x.l1), (.int .u64 q.x.l2), (.int .u64 q.x.l3), (.int .u64 q.x.l4), (.int .u64 q.y.l0), (.int .u64 q.y.l1), (.int .u64 q.y.l2), (.int .u64 q.y.l3), (.int .u64 q.y.l4), (.int .u64 q.z.l0), (.int .u64 q.z.l1), (.int .u64 q.z.l2), (.int .u64 q.z.l3), (.int .u64 q.z.l4), (.int .u64 q.t.l0), (.int .u64 q.t.l1), (.int .u64 q.t.l2), (.int .u64 q.t.l3), (.int .u64 q.t.l4)]) (sets_row sz49 rfl rfl rfl) (fun w hM => ?_)
            replace hM : Mem _ _ w [⟨b22, #[(.int .u64 c.d.l0), (.int .u64 c.d.l1), (.int .u64 c.d.l2), (.int .u64 c.d.l3), (.int .u64 c.d.l4), (.int .u64 c.e.l0), (.int .u64 c.e.l1), (.int .u64 c.e.l2), (.int .u64 c.e.l3), (.int .u64 c.e.l4), (.int .u64 c.x.l0), (.int .u64 c.x.l1), (.int .u64 c.x.l2), (.int .u64 c.x.l3), (.int .u64 c.x.l4), (.int .u64 c.y.l0), (.int .u64 c.y.l1), (.int .u64 c.y.l2), (.int .u64 c.y.l3), (.int .u64 c.y.l4), (.int .u64 c.z.l0), (.int .u64 c.z.l1), (.int .u64 c.z.l2), (.int .u64 c.z.l3), (.int .u64 c.z.l4), (.int .u64 c.t.l0), (.int .u64 c.t.l1), (.int .u64 c.t.l2), (.int .u64 c.t.l3), (.int .u64 c.t.l4)], 55, true⟩, ⟨b20, #[(.int .u64 q.x.l0), (.int .u64 q.x.l1), (.int .u64 q.x.l2), (.int .u64 q.x.l3), (.int .u64 q.x.l4), (.int .u64 q.y.l0), (.int .u64 q.y.l1), (.int .u64 q.y.l2), (.int .u64 q.y.l3), (.int .u64 q.y.l4), (.int .u64 q.z.l0), (.int .u64 q.z.l1), (.int .u64 q.z.l2), (.int .u64 q.z.l3), (.int .u64 q.z.l4), (.int .u64 q.t.l0), (.int .u64 q.t.l1), (.int .u64 q.t.l2), (.int .u64 q.t.l3), (.int .u64 q.t.l4)], 49, true⟩, ⟨b0, (arr .u8 32 (dgF 8 s)), 22, true⟩] := hM
            refine T_nil ?_
            refine any_1 (i1 := 5) (by kernel_rfl) ?_
            refine U_op rfl ?_
            refine T_val 10 hn hM rfl rfl rfl (v := (.bool true)) (g_extract rfl rfl rfl) ?_
            refine T_nil ?_
            refine any_1 (i1 := 8) (by kernel_rfl) ?_
            refine U_op rfl ?_
            refine T_val 4 hn hM rfl rfl rfl (v := (.bool true)) (g_assign rfl rfl) ?_
            refine T_nil ?_
            refine any_done (by kernel_rfl) ?_
            replace hM := hM.sub [] ((.cons _ (.cons _ (.cons _ (List.Sublist.refl _)))))
            exact ⟨rfl, frame_ex [(4, (.bool true))] hn hdf rfl rfl ⟨rfl, trivial⟩ hM⟩
        · skip
          refine U_op rfl ?_
          refine T_val 10 hn hM rfl rfl rfl (v := (.bool true)) (g_extract rfl rfl rfl) ?_
          refine T_nil ?_
          refine any_1 (i1 := 4) (by kernel_rfl) ?_
          refine U_op rfl ?_
          refine T_val 9 hn hM rfl rfl rfl (v := q.v) (g_extract rfl rfl rfl) ?_
          refine T_nil ?_
          refine any_1 (i1 := 7) (by kernel_rfl) ?_
          refine U_op rfl ?_
          refine T_store 1 hn hM rfl rfl rfl rfl rfl rfl rfl (c' := #[(.int .u64 q.x.l0), (.int .u64 q.x.l1), (.int .u64 q.x.l2), (.int .u64 q.x.l3), (.int .u64 q.x.l4), (.int .u64 q.y.l0), (.int .u64 q.y.l1), (.int .u64 q.y.l2), (.int .u64 q.y.l3), (.int .u64 q.y.l4), (.int .u64 q.z.l0), (.int .u64 q.z.l1), (.int .u64 q.z.l2), (.int .u64 q.z.l3), (.int .u64 q.z.l4), (.int .u64 q.t.l0), (.int .u64 q.t.l1), (.int .u64 q.t.l2), (.int .u64 q.t.l3), (.int .u64 q.t.l4)]) (sets_row sz49 rfl rfl rfl) (fun w hM => ?_)
          replace hM : Mem _ _ w [⟨b22, #[(.int .u64 c.d.l0), (.int .u64 c.d.l1), (.int .u64 c.d.l2), (.int .u64 c.d.l3), (.int .u64 c.d.l4), (.int .u64 c.e.l0), (.int .u64 c.e.l1), (.int .u64 c.e.l2), (.int .u64 c.e.l3), (.int .u64 c.e.l4), (.int .u64 c.x.l0), (.int .u64 c.x.l1), (.int .u64 c.x.l2), (.int .u64 c.x.l3), (.int .u64 c.x.l4), (.int .u64 c.y.l0), (.int .u64 c.y.l1), (.int .u64 c.y.l2), (.int .u64 c.y.l3), (.int .u64 c.y.l4), (.int .u64 c.z.l0), (.int .u64 c.z.l1), (.int .u64 c.z.l2), (.int .u64 c.z.l3), (.int .u64 c.z.l4), (.int .u64 c.t.l0), (.int .u64 c.t.l1), (.int .u64 c.t.l2), (.int .u64 c.t.l3), (.int .u64 c.t.l4)], 55, true⟩, ⟨b20, #[(.int .u64 q.x.l0), (.int .u64 q.x.l1), (.int .u64 q.x.l2), (.int .u64 q.x.l3), (.int .u64 q.x.l4), (.int .u64 q.y.l0), (.int .u64 q.y.l1), (.int .u64 q.y.l2), (.int .u64 q.y.l3), (.int .u64 q.y.l4), (.int .u64 q.z.l0), (.int .u64 q.z.l1), (.int .u64 q.z.l2), (.int .u64 q.z.l3), (.int .u64 q.z.l4), (.int .u64 q.t.l0), (.int .u64 q.t.l1), (.int .u64 q.t.l2), (.int .u64 q.t.l3), (.int .u64 q.t.l4)], 49, true⟩, ⟨b0, (arr .u8 32 (dgF 8 s)), 22, true⟩] := hM
          refine T_nil ?_
          refine any_1 (i1 := 8) (by kernel_rfl) ?_
          refine U_op rfl ?_
          refine T_val 4 hn hM rfl rfl rfl (v := (.bool true)) (g_assign rfl rfl) ?_
          refine T_nil ?_
          refine any_done (by kernel_rfl) ?_
          replace hM := hM.sub [] ((.cons _ (.cons _ (.cons _ (List.Sublist.refl _)))))
          exact ⟨rfl, frame_ex [(4, (.bool true))] hn hdf rfl rfl ⟨rfl, trivial⟩ hM⟩
  · rintro e a w ⟨rfl, A, hn, hdf, rfl, hM⟩
    refine x_next ?_
    refine wp_seq ?_
    refine wp_region_lit ?_
    refine T_val 11 hn hM rfl rfl rfl (v := (.bool true)) (g_move rfl rfl) ?_
    refine T_val 2 hn hM rfl rfl rfl (v := (.bool true)) (g_assign rfl rfl) ?_
    refine T_nil ?_
    refine wp_ret ?_
    refine leave (.inl rfl) hn hdf hM rfl Tryd.results14 (vs := [(.bool true)]) (.tmp 2 rfl .nil) ?_
    exact ⟨rfl, hM.done⟩

theorem nm5 : (Tryd.f5.name == "runtime.NumGoroutine") = false := by kernel_rfl
theorem bd5 : Tryd.f5.body.isNone = false := by kernel_rfl
theorem nm6 : (Tryd.f6.name == "runtime.NumGoroutine") = false := by kernel_rfl
theorem bd6 : Tryd.f6.body.isNone = false := by kernel_rfl
theorem nm14 : (Tryd.f14.name == "runtime.NumGoroutine") = false := by kernel_rfl
theorem bd14 : Tryd.f14.body.isNone = false := by kernel_rfl

set_option maxHeartbeats 1000000 in
set_option maxRecDepth 100000 in
theorem maps_E (g0 g1 f : Nat → Int) {x : Nat} (hx : ∀ i, i < 32 → sumOf g0 g1 f i = dgF 8 x i) {c : Cv} {fe : F} {fb : E4} (hbeg : BeginR c) (he : IsL c.e fe) (hp : IsP c.b fb) {key : Nat} (hkey : encN (mulF fe (clampN x).testBit fb 256) = key) (hpt : Pure 14 #[.agg (arr .u8 32 (dgF 8 key))] (.bool true))
    {U V : F} (hU : (((toF 1) + (toF ((key % 2 ^ 255 : Nat) : Int))) * (inv ((toF 1) - (toF ((key % 2 ^ 255 : Nat) : Int))))) = U) (hV : multV x 9 = V) (hu : U = V) (hz : U ≠ 0) (w0 : World) (hg0 : w0.heap[0]? = some (.cells (arr .u64 8 g0) 67 (0, 0))) (hg1 : w0.heap[1]? = some (.cells (arr .u64 80 g1) 101 (0, 0))) :
    Calls Tryd.prog 3 #[.agg (arr .u8 32 f)] w0 fun e w' => e = .returned (.bool true) ∧ Below w0.heap.size w0 w' := by
  obtain ⟨c1, hc1, pc1⟩ := of_E key
  obtain ⟨c2, hc2, pc2⟩ := add_E (small_E 1 (by decide)).1 hc1
  obtain ⟨c3, hc3, pc3⟩ := sub_E (small_E 1 (by decide)).1 hc1
  obtain ⟨c4, hc4, pc4⟩ := invert_E hc3
  obtain ⟨c5, hc5, pc5⟩ := mul_E hc2 hc4
  rw [hU] at hc5
  have pz6 := zero_E hc5
  rw [decide_eq_false hz] at pz6
  refine enter Tryd.func3 rfl Tryd.ntmps3 (Nat.le_of_ble_eq_true rfl) fun A hn hdf => ?_
  have hM : Mem w0 [] w0 [⟨0, (arr .u64 8 g0), 67, false⟩, ⟨1, (arr .u64 80 g1), 101, false⟩] := Mem.read2 w0 hg0 hg1 (by decide)
  replace hM := hM
  refine wp_seq ?_
  refine wp_region_lit ?_
  refine T_box 1 hn hM rfl rfl rfl rfl rfl (arr .u8 32 f) rfl (fun b0 w hM => ?_)
  refine T_val 2 hn hM rfl rfl rfl (v := (.bool false)) (g_assign rfl rfl) ?_
  refine T_nil ?_
  refine wp_seq ?_
  refine wp_region_lit ?_
  refine T_val 9 hn hM rfl rfl rfl (v := (.slice (some ⟨b0, 0, none⟩) 32 32)) (g_sliceArr rfl rfl Tryd.underlying22 Tryd.sizeOf5) ?_
  refine T_val 10 hn hM rfl rfl rfl (v := (.string (strOf 32 f))) (g_bytesStr 0 rfl rfl rfl (by omega) Tryd.underlying25 Tryd.underlying5 Tryd.underlying9) ?_
  refine T_buildSlice (sz := 1) (z := .string ByteArray.empty) 11 hn hM rfl rfl rfl rfl Tryd.underlying38 Tryd.sizeOf9 Tryd.zeroValue9 (by decide) (by decide) #[(.string (strOf 32 f))] (by kernel_rfl) (fun b1 w hM => ?_)
  refine T_call 12 hn hM rfl rfl rfl (v := (.agg (arr .u8 64 (sumOf g0 g1 f)))) (g_callM (fun w hM => sum512_E g0 g1 [(strOf 32 f)] (cl := 1) (cL := #[.string (strOf 32 f)]) one_cells (Nat.le_of_ble_eq_true rfl) (Nat.le_refl 1) (by rw [joinS_one, strOf_size]; decide) w (hM.get 0 rfl) (hM.get 2 rfl) (hM.get 3 rfl) (hM.ne (i := 0) (j := 2) rfl rfl (by decide)) (hM.ne (i := 0) (j := 3) rfl rfl (by decide))) rfl rfl rfl Tryd.func4 nm4 bd4) (fun w hM => ?_)
  refine T_alloc 3 hn hM rfl rfl rfl rfl Tryd.zeroValue23 (arr .u8 64 (fun _ => 0)) (by rfl) (fun b2 w hM => ?_)
  refine T_store 0 hn hM rfl rfl rfl rfl rfl rfl rfl (c' := (arr .u8 64 (sumOf g0 g1 f))) (sets_allA sz23 arr_len) (fun w hM => ?_)
  replace hM : Mem _ _ w [⟨b2, (arr .u8 64 (sumOf g0 g1 f)), 23, true⟩, ⟨b1, #[(.string (strOf 32 f))], 9, true⟩, ⟨b0, (arr .u8 32 f), 22, true⟩, ⟨0, (arr .u64 8 g0), 67, false⟩, ⟨1, (arr .u64 80 g1), 101, false⟩] := hM
  refine T_nil ?_
  refine wp_seq ?_
  refine wp_region_lit ?_
  refine T_val 13 hn hM rfl rfl rfl (v := (.slice (some ⟨b2, 0, none⟩) 32 64)) (g_sliceArrTo (h := 32) rfl rfl rfl Tryd.underlying23 Tryd.sizeOf5 (by decide)) ?_
  refine T_val 14 hn hM rfl rfl rfl (v := (.pointer (some ⟨b2, 0, none⟩))) (g_arrPtr (_elem := 0) rfl rfl ⟨_, Tryd.underlying22⟩ (by decide)) ?_
  refine T_val 15 hn hM rfl rfl rfl (v := (.agg (arr .u8 32 (dgF 8 x)))) (by rw [← arr_congr hx]; exact (g_loadHead 0 rfl rfl rfl Tryd.underlying22 rfl sz22 (by decide))) ?_
  refine T_call 16 hn hM rfl rfl rfl (v := (.agg (arr .u8 32 (dgF 8 V.val)))) (g_call (by rw [← hV]; exact base_E x) rfl rfl rfl Tryd.func5 nm5 bd5) (fun w hM => ?_)
  refine T_alloc 4 hn hM rfl rfl rfl rfl Tryd.zeroValue22 (arr .u8 32 (fun _ => 0)) (by rfl) (fun b3 w hM => ?_)
  refine T_store 0 hn hM rfl rfl rfl rfl rfl rfl rfl (c' := (arr .u8 32 (dgF 8 V.val))) (sets_allA sz22 arr_len) (fun w hM => ?_)
  replace hM : Mem _ _ w [⟨b3, (arr .u8 32 (dgF 8 V.val)), 22, true⟩, ⟨b2, (arr .u8 64 (sumOf g0 g1 f)), 23, true⟩, ⟨b1, #[(.string (strOf 32 f))], 9, true⟩, ⟨b0, (arr .u8 32 f), 22, true⟩, ⟨0, (arr .u64 8 g0), 67, false⟩, ⟨1, (arr .u64 80 g1), 101, false⟩] := hM
  refine T_nil ?_
  refine wp_seq ?_
  refine wp_region_lit ?_
  refine T_val 17 hn hM rfl rfl rfl (v := (.agg (arr .u8 32 f))) (g_loadAll 3 rfl rfl rfl Tryd.underlying22 rfl (by rw [arr_len]; exact sz22)) ?_
  refine T_call 18 hn hM rfl rfl rfl (v := (.agg (arr .u8 32 (dgF 8 key)))) (g_callM (fun w hM => by rw [← hkey]; exact key_E g0 g1 f hx hbeg he hp w (hM.get 4 rfl) (hM.get 5 rfl)) rfl rfl rfl Tryd.func6 nm6 bd6) (fun w hM => ?_)
  refine T_alloc 5 hn hM rfl rfl rfl rfl Tryd.zeroValue22 (arr .u8 32 (fun _ => 0)) (by rfl) (fun b4 w hM => ?_)
  refine T_store 0 hn hM rfl rfl rfl rfl rfl rfl rfl (c' := (arr .u8 32 (dgF 8 key))) (sets_allA sz22 arr_len) (fun w hM => ?_)
  replace hM : Mem _ _ w [⟨b4, (arr .u8 32 (dgF 8 key)), 22, true⟩, ⟨b3, (arr .u8 32 (dgF 8 V.val)), 22, true⟩, ⟨b2, (arr .u8 64 (sumOf g0 g1 f)), 23, true⟩, ⟨b1, #[(.string (strOf 32 f))], 9, true⟩, ⟨b0, (arr .u8 32 f), 22, true⟩, ⟨0, (arr .u64 8 g0), 67, false⟩, ⟨1, (arr .u64 80 g1), 101, false⟩] := hM
  refine T_nil ?_
  refine wp_seq ?_
  refine wp_region_lit ?_
  refine T_val 19 hn hM rfl rfl rfl (v := (.slice (some ⟨b4, 0, none⟩) 32 32)) (g_sliceArr rfl rfl Tryd.underlying22 Tryd.sizeOf5) ?_
  refine T_val 20 hn hM rfl rfl rfl (v := (.string (strOf 32 (dgF 8 key)))) (g_bytesStr 0 rfl rfl rfl (by omega) Tryd.underlying25 Tryd.underlying5 Tryd.underlying9) ?_
  refine T_call 21 hn hM rfl rfl rfl (v := c1.v) (g_call pc1 rfl rfl rfl Tryd.func7 nm7 bd7) (fun w hM => ?_)
  refine T_alloc 6 hn hM rfl rfl rfl rfl Tryd.zeroValue30 #[(.int .u64 0), (.int .u64 0), (.int .u64 0), (.int .u64 0), (.int .u64 0)] rfl (fun b5 w hM => ?_)
  refine T_store 0 hn hM rfl rfl rfl rfl rfl rfl rfl (c' := #[(.int .u64 c1.l0), (.int .u64 c1.l1), (.int .u64 c1.l2), (.int .u64 c1.l3), (.int .u64 c1.l4)]) (sets_row sz30 rfl rfl rfl) (fun w hM => ?_)
  replace hM : Mem _ _ w [⟨b5, #[(.int .u64 c1.l0), (.int .u64 c1.l1), (.int .u64 c1.l2), (.int .u64 c1.l3), (.int .u64 c1.l4)], 30, true⟩, ⟨b4, (arr .u8 32 (dgF 8 key)), 22, true⟩, ⟨b3, (arr .u8 32 (dgF 8 V.val)), 22, true⟩, ⟨b2, (arr .u8 64 (sumOf g0 g1 f)), 23, true⟩, ⟨b1, #[(.string (strOf 32 f))], 9, true⟩, ⟨b0, (arr .u8 32 f), 22, true⟩, ⟨0, (arr .u64 8 g0), 67, false⟩, ⟨1, (arr .u64 80 g1), 101, false⟩] := hM
  refine T_nil ?_
  refine wp_seq ?_
  refine wp_region_lit ?_
  refine T_call 22 hn hM rfl rfl rfl (v := (⟨1, 0, 0, 0, 0⟩ : El).v) (g_call (small_E 1 (by decide)).2 rfl rfl rfl Tryd.func8 nm8 bd8) (fun w hM => ?_)
  refine T_alloc 7 hn hM rfl rfl rfl rfl Tryd.zeroValue30 #[(.int .u64 0), (.int .u64 0), (.int .u64 0), (.int .u64 0), (.int .u64 0)] rfl (fun b6 w hM => ?_)
  refine T_store 0 hn hM rfl rfl rfl rfl rfl rfl rfl (c' := #[(.int .u64 1), (.int .u64 0), (.int .u64 0), (.int .u64 0), (.int .u64 0)]) (sets_row sz30 rfl rfl rfl) (fun w hM => ?_)
  replace hM : Mem _ _ w [⟨b6, #[(.int .u64 1), (.int .u64 0), (.int .u64 0), (.int .u64 0), (.int .u64 0)], 30, true⟩, ⟨b5, #[(.int .u64 c1.l0), (.int .u64 c1.l1), (.int .u64 c1.l2), (.int .u64 c1.l3), (.int .u64 c1.l4)], 30, true⟩, ⟨b4, (arr .u8 32 (dgF 8 key)), 22, true⟩, ⟨b3, (arr .u8 32 (dgF 8 V.val)), 22, true⟩, ⟨b2, (arr .u8 64 (sumOf g0 g1 f)), 23, true⟩, ⟨b1, #[(.string (strOf 32 f))], 9, true⟩, ⟨b0, (arr .u8 32 f), 22, true⟩, ⟨0, (arr .u64 8 g0), 67, false⟩, ⟨1, (arr .u64 80 g1), 101, false⟩] := hM
  refine T_nil ?_
  refine wp_seq ?_
  refine R_any [.val, .val, .val, .val, .val, .val, .val, .val, .alloc] 9 [⟨8, #[(.int .u64 0), (.int .u64 0), (.int .u64 0), (.int .u64 0), (.int .u64 0)], #[(.int .u64 0), (.int .u64 0), (.int .u64 0), (.int .u64 0), (.int .u64 0)], 30⟩] [(8, 8)] hn hM rfl (by kernel_rfl) (by kernel_rfl) rfl rfl rfl ?_
  refine E_val 23 rfl rfl rfl rfl (v := (.agg #[(.int .u64 1), (.int .u64 0), (.int .u64 0), (.int .u64 0), (.int .u64 0)])) (g_loadRow 0 [(.int .u64 1), (.int .u64 0), (.int .u64 0), (.int .u64 0), (.int .u64 0)] rfl rfl rfl Tryd.underlying30 rfl sz30 rfl) ?_
  refine E_val 24 rfl rfl rfl rfl (v := (.agg #[(.int .u64 c1.l0), (.int .u64 c1.l1), (.int .u64 c1.l2), (.int .u64 c1.l3), (.int .u64 c1.l4)])) (g_loadRow 1 [(.int .u64 c1.l0), (.int .u64 c1.l1), (.int .u64 c1.l2), (.int .u64 c1.l3), (.int .u64 c1.l4)] rfl rfl rfl Tryd.underlying30 rfl sz30 rfl) ?_
  refine E_call 25 rfl rfl rfl rfl (v := c2.v) (g_call pc2 rfl rfl rfl Tryd.func9 nm9 bd9) ?_
  refine E_val 26 rfl rfl rfl rfl (v := (.agg #[(.int .u64 1), (.int .u64 0), (.int .u64 0), (.int .u64 0), (.int .u64 0)])) (g_loadRow 0 [(.int .u64 1), (.int .u64 0), (.int .u64 0), (.int .u64 0), (.int .u64 0)] rfl rfl rfl Tryd.underlying30 rfl sz30 rfl) ?_
  refine E_val 27 rfl rfl rfl rfl (v := (.agg #[(.int .u64 c1.l0), (.int .u64 c1.l1), (.int .u64 c1.l2), (.int .u64 c1.l3), (.int .u64 c1.l4)])) (g_loadRow 1 [(.int .u64 c1.l0), (.int .u64 c1.l1), (.int .u64 c1.l2), (.int .u64 c1.l3), (.int .u64 c1.l4)] rfl rfl rfl Tryd.underlying30 rfl sz30 rfl) ?_
  refine E_call 28 rfl rfl rfl rfl (v := c3.v) (g_call pc3 rfl rfl rfl Tryd.func11 nm11 bd11) ?_
  refine E_call 29 rfl rfl rfl rfl (v := c4.v) (g_call pc4 rfl rfl rfl Tryd.func12 nm12 bd12) ?_
  refine E_call 30 rfl rfl rfl rfl (v := c5.v) (g_call pc5 rfl rfl rfl Tryd.func10 nm10 bd10) ?_
  refine E_skip rfl ?_
  refine E_nil ?_
  refine ⟨?_, fun β1 w hM => ?_⟩
  · skip
    refine M_val rfl ?_
    refine M_val rfl ?_
    refine M_val rfl ?_
    refine M_val rfl ?_
    refine M_val rfl ?_
    refine M_val rfl ?_
    refine M_val rfl ?_
    refine M_val rfl ?_
    refine M_alloc rfl rfl (runs_alloc rfl Tryd.zeroValue30 rfl) ?_
    exact M_nil
  replace hM : Mem _ _ w [⟨(β1 8), #[(.int .u64 0), (.int .u64 0), (.int .u64 0), (.int .u64 0), (.int .u64 0)], 30, true⟩, ⟨b6, #[(.int .u64 1), (.int .u64 0), (.int .u64 0), (.int .u64 0), (.int .u64 0)], 30, true⟩, ⟨b5, #[(.int .u64 c1.l0), (.int .u64 c1.l1), (.int .u64 c1.l2), (.int .u64 c1.l3), (.int .u64 c1.l4)], 30, true⟩, ⟨b4, (arr .u8 32 (dgF 8 key)), 22, true⟩, ⟨b3, (arr .u8 32 (dgF 8 V.val)), 22, true⟩, ⟨b2, (arr .u8 64 (sumOf g0 g1 f)), 23, true⟩, ⟨b1, #[(.string (strOf 32 f))], 9, true⟩, ⟨b0, (arr .u8 32 f), 22, true⟩, ⟨0, (arr .u64 8 g0), 67, false⟩, ⟨1, (arr .u64 80 g1), 101, false⟩] := hM
  show wpList _ _ _ (_ :: _) (putAll _ ((8, _) :: _)) _
  refine T_store 0 hn hM rfl rfl rfl rfl rfl rfl rfl (c' := #[(.int .u64 c5.l0), (.int .u64 c5.l1), (.int .u64 c5.l2), (.int .u64 c5.l3), (.int .u64 c5.l4)]) (sets_row sz30 rfl rfl rfl) (fun w hM => ?_)
  replace hM : Mem _ _ w [⟨(β1 8), #[(.int .u64 c5.l0), (.int .u64 c5.l1), (.int .u64 c5.l2), (.int .u64 c5.l3), (.int .u64 c5.l4)], 30, true⟩, ⟨b6, #[(.int .u64 1), (.int .u64 0), (.int .u64 0), (.int .u64 0), (.int .u64 0)], 30, true⟩, ⟨b5, #[(.int .u64 c1.l0), (.int .u64 c1.l1), (.int .u64 c1.l2), (.int .u64 c1.l3), (.int .u64 c1.l4)], 30, true⟩, ⟨b4, (arr .u8 32 (dgF 8 key)), 22, true⟩, ⟨b3, (arr .u8 32 (dgF 8 V.val)), 22, true⟩, ⟨b2, (arr .u8 64 (sumOf g0 g1 f)), 23, true⟩, ⟨b1, #[(.string (strOf 32 f))], 9, true⟩, ⟨b0, (arr .u8 32 f), 22, true⟩, ⟨0, (arr .u64 8 g0), 67, false⟩, ⟨1, (arr .u64 80 g1), 101, false⟩] := hM
  refine T_nil ?_
  refine wp_seq ?_
  refine R_any [.val, .val, .val, .val, .val, .val, .val, .val, .val, .val, .val, .val, .val, .val] 14 [] [] hn hM rfl (by kernel_rfl) (by kernel_rfl) rfl rfl rfl ?_
  refine E_val 31 rfl rfl rfl rfl (v := (.agg #[(.int .u64 c5.l0), (.int .u64 c5.l1), (.int .u64 c5.l2), (.int .u64 c5.l3), (.int .u64 c5.l4)])) (g_loadRow 0 [(.int .u64 c5.l0), (.int .u64 c5.l1), (.int .u64 c5.l2), (.int .u64 c5.l3), (.int .u64 c5.l4)] rfl rfl rfl Tryd.underlying30 rfl sz30 rfl) ?_
  refine E_call 32 rfl rfl rfl rfl (v := (.agg (arr .u8 32 (dgF 8 U.val)))) (g_call (bytes_E hc5) rfl rfl rfl Tryd.func13 nm13 bd13) ?_
  refine E_val 33 rfl rfl rfl rfl (v := (.agg (arr .u8 32 (dgF 8 V.val)))) (g_loadAll 4 rfl rfl rfl Tryd.underlying22 rfl (by rw [arr_len]; exact sz22)) ?_
  refine E_val 34 rfl rfl rfl rfl (v := (.bool true)) (g_eqArrT rfl rfl rfl Tryd.underlying22 Tryd.underlying5 Tryd.sizeOf5 (by kernel_rfl) (fun i _ => by rw [hu])) ?_
  refine E_val 35 rfl rfl rfl rfl (v := (.bool true)) (g_move rfl rfl) ?_
  refine E_val 36 rfl rfl rfl rfl (v := (.agg (arr .u8 32 (dgF 8 key)))) (g_loadAll 3 rfl rfl rfl Tryd.underlying22 rfl (by rw [arr_len]; exact sz22)) ?_
  refine E_call 37 rfl rfl rfl rfl (v := (.bool true)) (g_call hpt rfl rfl rfl Tryd.func14 nm14 bd14) ?_
  refine E_val 38 rfl rfl rfl rfl (v := (.bool true)) (g_pick true rfl rfl rfl) ?_
  refine E_val 39 rfl rfl rfl rfl (v := (.bool true)) (g_move rfl rfl) ?_
  refine E_val 40 rfl rfl rfl rfl (v := (.agg #[(.int .u64 c5.l0), (.int .u64 c5.l1), (.int .u64 c5.l2), (.int .u64 c5.l3), (.int .u64 c5.l4)])) (g_loadRow 0 [(.int .u64 c5.l0), (.int .u64 c5.l1), (.int .u64 c5.l2), (.int .u64 c5.l3), (.int .u64 c5.l4)] rfl rfl rfl Tryd.underlying30 rfl sz30 rfl) ?_
  refine E_call 41 rfl rfl rfl rfl (v := (.bool false)) (g_call pz6 rfl rfl rfl Tryd.func15 nm15 bd15) ?_
  refine E_val 42 rfl rfl rfl rfl (v := (.bool true)) (g_not false rfl rfl) ?_
  refine E_val 43 rfl rfl rfl rfl (v := (.bool true)) (g_pick true rfl rfl rfl) ?_
  refine E_val 2 rfl rfl rfl rfl (v := (.bool true)) (g_assign rfl rfl) ?_
  refine E_nil ?_
  refine ⟨?_, fun β2 w hM => ?_⟩
  · skip
    refine M_val rfl ?_
    refine M_val rfl ?_
    refine M_val rfl ?_
    refine M_val rfl ?_
    refine M_val rfl ?_
    refine M_val rfl ?_
    refine M_val rfl ?_
    refine M_val rfl ?_
    refine M_val rfl ?_
    refine M_val rfl ?_
    refine M_val rfl ?_
    refine M_val rfl ?_
    refine M_val rfl ?_
    refine M_val rfl ?_
    exact M_nil
  show wpList _ _ _ [] (putAll _ (_)) _
  refine T_nil ?_
  refine wp_ret ?_
  refine leave (.inl rfl) hn hdf hM rfl Tryd.results3 (vs := [(.bool true)]) (.tmp 2 rfl .nil) ?_
  exact ⟨rfl, hM.done⟩

end Go.Proofs.YtbonnnakebfniaaDoor

