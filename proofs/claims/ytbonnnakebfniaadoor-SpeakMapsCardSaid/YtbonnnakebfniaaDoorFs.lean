/- field.Elem.Add and field.Elem.Sub: the walks, their limbs told. -/
import Derived.Test.YtbonnnakebfniaaDoorFb
import Derived.RegionTactic
import Derived.BigRegion
import Derived.Test.YtbonnnakebfniaaDoorEv
namespace Go.Proofs.YtbonnnakebfniaaDoor
open Go Go.RowKit

theorem Hid_mk {p : Prop} (h : p) : Hid p := h

set_option maxHeartbeats 2000000 in
theorem add_any (a0 a1 a2 a3 a4 b0 b1 b2 b3 b4 : Int) (w : World)
    (h0 : 0 ≤ a0 ∧ a0 < 4611686018427387904) (h1 : 0 ≤ a1 ∧ a1 < 4611686018427387904) (h2 : 0 ≤ a2 ∧ a2 < 4611686018427387904)
    (h3 : 0 ≤ a3 ∧ a3 < 4611686018427387904) (h4 : 0 ≤ a4 ∧ a4 < 4611686018427387904)
    (k0 : 0 ≤ b0 ∧ b0 < 4611686018427387904) (k1 : 0 ≤ b1 ∧ b1 < 4611686018427387904) (k2 : 0 ≤ b2 ∧ b2 < 4611686018427387904)
    (k3 : 0 ≤ b3 ∧ b3 < 4611686018427387904) (k4 : 0 ≤ b4 ∧ b4 < 4611686018427387904) :
    Calls Tryd.prog 9 #[elV a0 a1 a2 a3 a4, elV b0 b1 b2 b3 b4] w fun e w' => e = .returned (crV (a0 + b0) (a1 + b1) (a2 + b2) (a3 + b3) (a4 + b4)) ∧ Below w.heap.size w w' := by
  go_enter Tryd.func9, Tryd.ntmps9
  go_wp2
  refine wp_loop_rounds 6 ?_
  rw [rounds_succ]; go_wp2; go_region; go_wp2
  rw [rounds_succ]; go_wp2; go_region; go_wp2
  rw [rounds_succ]; go_wp2; go_region; go_wp2
  rw [rounds_succ]; go_wp2; go_region; go_wp2
  rw [rounds_succ]; go_wp2; go_region; go_wp2
  rw [rounds_succ]
  go_wp2_with (go_at_call 23; refine (carry_any _ _ _ _ _ _ (by omega) (by omega) (by omega) (by omega) (by omega)).mono ?_; rintro e w' ⟨rfl, hb⟩; obtain ⟨hc, hf⟩ := bcell hb)
  refine bodyPost_ret (by simp [results, Tryd.results9, go_sem, hc]; rfl) rfl ?_
  refine ⟨rfl, ?_⟩
  go_grown
  refine Below.trans ?_ (hb.mono (by simp; omega))
  go_grown

set_option maxHeartbeats 2000000 in
set_option maxRecDepth 1000000 in
theorem sub_any (a0 a1 a2 a3 a4 b0 b1 b2 b3 b4 : Int) (w : World)
    (h0 : 0 ≤ a0 ∧ a0 < 4503599627370496) (h1 : 0 ≤ a1 ∧ a1 < 4503599627370496) (h2 : 0 ≤ a2 ∧ a2 < 4503599627370496) (h3 : 0 ≤ a3 ∧ a3 < 4503599627370496) (h4 : 0 ≤ a4 ∧ a4 < 4503599627370496)
    (_k0 : 0 ≤ b0 ∧ b0 < 4503599627370496) (_k1 : 0 ≤ b1 ∧ b1 < 4503599627370496) (_k2 : 0 ≤ b2 ∧ b2 < 4503599627370496) (_k3 : 0 ≤ b3 ∧ b3 < 4503599627370496) (_k4 : 0 ≤ b4 ∧ b4 < 4503599627370496)
    (c0 c1 c2 c3 c4 : Int) (hcar : ∀ w, Calls Tryd.prog 23 #[elV b0 b1 b2 b3 b4] w fun e w' => e = .returned (elV c0 c1 c2 c3 c4) ∧ Below w.heap.size w w')
    (l0 : 0 ≤ c0 ∧ c0 < 2251799813947392) (l1 : 0 ≤ c1 ∧ c1 < 2251799813947392) (l2 : 0 ≤ c2 ∧ c2 < 2251799813947392) (l3 : 0 ≤ c3 ∧ c3 < 2251799813947392) (l4 : 0 ≤ c4 ∧ c4 < 2251799813947392) :
    Calls Tryd.prog 11 #[elV a0 a1 a2 a3 a4, elV b0 b1 b2 b3 b4] w fun e w' =>
      e = .returned (crV (a0 + 4503599627370458 - c0) (a1 + 4503599627370494 - c1) (a2 + 4503599627370494 - c2) (a3 + 4503599627370494 - c3) (a4 + 4503599627370494 - c4)) ∧ Below w.heap.size w w' := by
  have HC := Hid_mk hcar
  clear hcar
  go_enter Tryd.func11, Tryd.ntmps11
  go_wp2_with (go_at_call 23; refine (HC.out _).mono ?_; rintro e w1 ⟨rfl, hb⟩; have x0 : w1.heap[w.heap.size]? = some (.cells #[.int .u64 a0, .int .u64 a1, .int .u64 a2, .int .u64 a3, .int .u64 a4] 30 (0, 0)) := (by rw [hb.block _ (by simp; omega), heap_alloc_lt (by simp; omega), heap_alloc_lt (by simp), heap_alloc_eq rfl]); have x1 : w1.heap[w.heap.size + 1]? = some (.cells #[.int .u64 b0, .int .u64 b1, .int .u64 b2, .int .u64 b3, .int .u64 b4] 30 (0, 0)) := (by rw [hb.block _ (by simp), heap_alloc_lt (by simp), heap_alloc_eq (by simp)]); have x2 : w1.heap[w.heap.size + 1 + 1]? = some (.cells #[.int .u64 0, .int .u64 0, .int .u64 0, .int .u64 0, .int .u64 0] 30 (0, 0)) := (by rw [hb.block _ (by simp), heap_alloc_eq (by simp)]); obtain ⟨z0, y0⟩ := blk x0; obtain ⟨z1, y1⟩ := blk x1; obtain ⟨z2, y2⟩ := blk x2)
  refine wp_loop_rounds 5 ?_
  rw [rounds_succ]; go_wp2
  rw [rounds_succ]; go_wp2
  rw [rounds_succ]; go_wp2
  rw [rounds_succ]; go_wp2
  rw [rounds_succ]; go_wp2
  generalize hW : World.setCell _ (⟨w.heap.size, 4, none⟩ : Addr) _ = W
  have hsz : w.heap.size + 3 ≤ W.heap.size := by rw [← hW]; have := hb.size; simp at this ⊢; omega
  have hbW : Below w.heap.size w W := by
    rw [← hW]; go_grown
    refine Below.trans ?_ (hb.mono (by simp; omega))
    go_grown
  have n01 : w.heap.size ≠ w.heap.size + 1 := by omega
  have n10 : w.heap.size + 1 ≠ w.heap.size := by omega
  have n20 : w.heap.size + 1 + 1 ≠ w.heap.size := by omega
  have n21 : w.heap.size + 1 + 1 ≠ w.heap.size + 1 := by omega
  have D0 : W.heap[w.heap.size]? = some (.cells #[.int .u64 (a0 + 4503599627370458), .int .u64 (a1 + 4503599627370494), .int .u64 (a2 + 4503599627370494), .int .u64 (a3 + 4503599627370494), .int .u64 (a4 + 4503599627370494)] 30 (0, 0)) := (by rw [← hW]; exact set5 _ _ _ _ _ ((set5_ne _ _ _ _ _ n01).trans x0))
  have D1 : W.heap[w.heap.size + 1]? = some (.cells #[.int .u64 (c0), .int .u64 (c1), .int .u64 (c2), .int .u64 (c3), .int .u64 (c4)] 30 (0, 0)) := (by rw [← hW]; exact (set5_ne _ _ _ _ _ n10).trans (set5 _ _ _ _ _ x1))
  have D2 : W.heap[w.heap.size + 1 + 1]? = some (.cells #[.int .u64 0, .int .u64 0, .int .u64 0, .int .u64 0, .int .u64 0] 30 (0, 0)) := by rw [← hW]; exact (set5_ne _ _ _ _ _ n20).trans ((set5_ne _ _ _ _ _ n21).trans x2)
  have N20 := Hid_mk n20
  have N10 := Hid_mk n10
  clear n01 n10 n20 n21
  clear hW x0 x1 x2 z0 z1 z2 y0 y1 y2 hb
  have HS := Hid_mk hsz
  have HB := Hid_mk hbW
  clear hsz hbW
  have u0 : IntKind.u64.wrap (a0 + 4503599627370458 - c0) = a0 + 4503599627370458 - c0 := by rw [IntKind.wrap_u64]; omega
  have U0 := Hid_mk u0
  clear u0
  have u1 : IntKind.u64.wrap (a1 + 4503599627370494 - c1) = a1 + 4503599627370494 - c1 := by rw [IntKind.wrap_u64]; omega
  have U1 := Hid_mk u1
  clear u1
  have u2 : IntKind.u64.wrap (a2 + 4503599627370494 - c2) = a2 + 4503599627370494 - c2 := by rw [IntKind.wrap_u64]; omega
  have U2 := Hid_mk u2
  clear u2
  have u3 : IntKind.u64.wrap (a3 + 4503599627370494 - c3) = a3 + 4503599627370494 - c3 := by rw [IntKind.wrap_u64]; omega
  have U3 := Hid_mk u3
  clear u3
  have u4 : IntKind.u64.wrap (a4 + 4503599627370494 - c4) = a4 + 4503599627370494 - c4 := by rw [IntKind.wrap_u64]; omega
  have U4 := Hid_mk u4
  clear u4
  refine wp_loop_rounds 6 ?_
  rw [rounds_succ]; go_wp2
  refine Mix.wp_region_vals 11 (by kernel_rfl) (by kernel_rfl) ?_
  refine Mix.evB_stepV _ rfl rfl rfl rfl (Mix.gives_move rfl rfl) ?_
  refine Mix.evB_stepV _ rfl rfl rfl rfl (Mix.gives_fa rfl rfl Tryd.underlying30 rfl Tryd.sizeOf28) ?_
  refine Mix.evB_stepV _ rfl rfl rfl rfl (Mix.gives_ia rfl rfl rfl Tryd.underlying28 Tryd.sizeOf27 (by decide)) ?_
  first | (refine Mix.evB_stepV _ rfl rfl rfl rfl (Mix.gives_loadOne rfl rfl D0 Tryd.underlying27 rfl rfl) ?_) | (refine Mix.evB_stepV _ rfl rfl rfl rfl (Mix.gives_loadOne rfl rfl D1 Tryd.underlying27 rfl rfl) ?_)
  refine Mix.evB_stepV _ rfl rfl rfl rfl (Mix.gives_move rfl rfl) ?_
  refine Mix.evB_stepV _ rfl rfl rfl rfl (Mix.gives_fa rfl rfl Tryd.underlying30 rfl Tryd.sizeOf28) ?_
  refine Mix.evB_stepV _ rfl rfl rfl rfl (Mix.gives_ia rfl rfl rfl Tryd.underlying28 Tryd.sizeOf27 (by decide)) ?_
  first | (refine Mix.evB_stepV _ rfl rfl rfl rfl (Mix.gives_loadOne rfl rfl D0 Tryd.underlying27 rfl rfl) ?_) | (refine Mix.evB_stepV _ rfl rfl rfl rfl (Mix.gives_loadOne rfl rfl D1 Tryd.underlying27 rfl rfl) ?_)
  refine Mix.evB_stepV _ rfl rfl rfl rfl (Mix.gives_int rfl rfl rfl rfl) ?_
  refine Mix.evB_stepV _ rfl rfl rfl rfl (Mix.gives_fa rfl rfl Tryd.underlying30 rfl Tryd.sizeOf28) ?_
  refine Mix.evB_stepV _ rfl rfl rfl rfl (Mix.gives_ia rfl rfl rfl Tryd.underlying28 Tryd.sizeOf27 (by decide)) ?_
  refine Mix.evB_nil ?_
  intro w3 hb3 hev
  refine Mix.wpList_storeOne (v := .int .u64 (IntKind.u64.wrap (a0 + 4503599627370458 - c0))) (off := 0) rfl rfl rfl ((congrFun hev _).trans rfl) ((congrFun hev _).trans rfl) rfl (by intro _ h; cases h) (by intro _ h; cases h) (Mix.low_heap hb3 D0) (by simp) (by kernel_rfl) ?_
  intro W1 hu
  have E0 := hu.at_
  simp only [List.setIfInBounds_toArray, List.set_cons_zero, U0.out] at E0
  have E1 := (hu.ne _ N10.out).trans (Mix.low_heap hb3 D1)
  have E2 := (hu.ne _ N20.out).trans (Mix.low_heap hb3 D2)
  have HS' : Hid (w.heap.size + 3 ≤ W1.heap.size) := Hid_mk (by have h1 := HS.out; have h2 := hb3.size; have h3 := hu.size; omega)
  have HB' : Hid (Below w.heap.size w W1) := Hid_mk ((HB.out.trans (hb3.mono (by have h1 := HS.out; omega))).trans (hu.below (Nat.le_refl _)))
  refine wpList_nil ?_
  simp [Mix.putAll, Act.put, Mix.ev, Mix.look, Mix.intV, U0.out]
  clear hev hu hb3 D0 D1 D2 HS HB U0 w3 W
  have D0 := E0
  have D1 := E1
  have D2 := E2
  have HS := HS'
  have HB := HB'
  clear E0 E1 E2 HS' HB'
  go_wp2
  rw [rounds_succ]; go_wp2
  refine Mix.wp_region_vals 11 (by kernel_rfl) (by kernel_rfl) ?_
  refine Mix.evB_stepV _ rfl rfl rfl rfl (Mix.gives_move rfl rfl) ?_
  refine Mix.evB_stepV _ rfl rfl rfl rfl (Mix.gives_fa rfl rfl Tryd.underlying30 rfl Tryd.sizeOf28) ?_
  refine Mix.evB_stepV _ rfl rfl rfl rfl (Mix.gives_ia rfl rfl rfl Tryd.underlying28 Tryd.sizeOf27 (by decide)) ?_
  first | (refine Mix.evB_stepV _ rfl rfl rfl rfl (Mix.gives_loadOne rfl rfl D0 Tryd.underlying27 rfl rfl) ?_) | (refine Mix.evB_stepV _ rfl rfl rfl rfl (Mix.gives_loadOne rfl rfl D1 Tryd.underlying27 rfl rfl) ?_)
  refine Mix.evB_stepV _ rfl rfl rfl rfl (Mix.gives_move rfl rfl) ?_
  refine Mix.evB_stepV _ rfl rfl rfl rfl (Mix.gives_fa rfl rfl Tryd.underlying30 rfl Tryd.sizeOf28) ?_
  refine Mix.evB_stepV _ rfl rfl rfl rfl (Mix.gives_ia rfl rfl rfl Tryd.underlying28 Tryd.sizeOf27 (by decide)) ?_
  first | (refine Mix.evB_stepV _ rfl rfl rfl rfl (Mix.gives_loadOne rfl rfl D0 Tryd.underlying27 rfl rfl) ?_) | (refine Mix.evB_stepV _ rfl rfl rfl rfl (Mix.gives_loadOne rfl rfl D1 Tryd.underlying27 rfl rfl) ?_)
  refine Mix.evB_stepV _ rfl rfl rfl rfl (Mix.gives_int rfl rfl rfl rfl) ?_
  refine Mix.evB_stepV _ rfl rfl rfl rfl (Mix.gives_fa rfl rfl Tryd.underlying30 rfl Tryd.sizeOf28) ?_
  refine Mix.evB_stepV _ rfl rfl rfl rfl (Mix.gives_ia rfl rfl rfl Tryd.underlying28 Tryd.sizeOf27 (by decide)) ?_
  refine Mix.evB_nil ?_
  intro w3 hb3 hev
  refine Mix.wpList_storeOne (v := .int .u64 (IntKind.u64.wrap (a1 + 4503599627370494 - c1))) (off := 1) rfl rfl rfl ((congrFun hev _).trans rfl) ((congrFun hev _).trans rfl) rfl (by intro _ h; cases h) (by intro _ h; cases h) (Mix.low_heap hb3 D0) (by simp) (by kernel_rfl) ?_
  intro W2 hu
  have E0 := hu.at_
  simp only [List.setIfInBounds_toArray, List.set_cons_succ, List.set_cons_zero, U1.out] at E0
  have E1 := (hu.ne _ N10.out).trans (Mix.low_heap hb3 D1)
  have E2 := (hu.ne _ N20.out).trans (Mix.low_heap hb3 D2)
  have HS' : Hid (w.heap.size + 3 ≤ W2.heap.size) := Hid_mk (by have h1 := HS.out; have h2 := hb3.size; have h3 := hu.size; omega)
  have HB' : Hid (Below w.heap.size w W2) := Hid_mk ((HB.out.trans (hb3.mono (by have h1 := HS.out; omega))).trans (hu.below (Nat.le_refl _)))
  refine wpList_nil ?_
  simp [Mix.putAll, Act.put, Mix.ev, Mix.look, Mix.intV, U1.out]
  clear hev hu hb3 D0 D1 D2 HS HB U1 w3 W1
  have D0 := E0
  have D1 := E1
  have D2 := E2
  have HS := HS'
  have HB := HB'
  clear E0 E1 E2 HS' HB'
  go_wp2
  rw [rounds_succ]; go_wp2
  refine Mix.wp_region_vals 11 (by kernel_rfl) (by kernel_rfl) ?_
  refine Mix.evB_stepV _ rfl rfl rfl rfl (Mix.gives_move rfl rfl) ?_
  refine Mix.evB_stepV _ rfl rfl rfl rfl (Mix.gives_fa rfl rfl Tryd.underlying30 rfl Tryd.sizeOf28) ?_
  refine Mix.evB_stepV _ rfl rfl rfl rfl (Mix.gives_ia rfl rfl rfl Tryd.underlying28 Tryd.sizeOf27 (by decide)) ?_
  first | (refine Mix.evB_stepV _ rfl rfl rfl rfl (Mix.gives_loadOne rfl rfl D0 Tryd.underlying27 rfl rfl) ?_) | (refine Mix.evB_stepV _ rfl rfl rfl rfl (Mix.gives_loadOne rfl rfl D1 Tryd.underlying27 rfl rfl) ?_)
  refine Mix.evB_stepV _ rfl rfl rfl rfl (Mix.gives_move rfl rfl) ?_
  refine Mix.evB_stepV _ rfl rfl rfl rfl (Mix.gives_fa rfl rfl Tryd.underlying30 rfl Tryd.sizeOf28) ?_
  refine Mix.evB_stepV _ rfl rfl rfl rfl (Mix.gives_ia rfl rfl rfl Tryd.underlying28 Tryd.sizeOf27 (by decide)) ?_
  first | (refine Mix.evB_stepV _ rfl rfl rfl rfl (Mix.gives_loadOne rfl rfl D0 Tryd.underlying27 rfl rfl) ?_) | (refine Mix.evB_stepV _ rfl rfl rfl rfl (Mix.gives_loadOne rfl rfl D1 Tryd.underlying27 rfl rfl) ?_)
  refine Mix.evB_stepV _ rfl rfl rfl rfl (Mix.gives_int rfl rfl rfl rfl) ?_
  refine Mix.evB_stepV _ rfl rfl rfl rfl (Mix.gives_fa rfl rfl Tryd.underlying30 rfl Tryd.sizeOf28) ?_
  refine Mix.evB_stepV _ rfl rfl rfl rfl (Mix.gives_ia rfl rfl rfl Tryd.underlying28 Tryd.sizeOf27 (by decide)) ?_
  refine Mix.evB_nil ?_
  intro w3 hb3 hev
  refine Mix.wpList_storeOne (v := .int .u64 (IntKind.u64.wrap (a2 + 4503599627370494 - c2))) (off := 2) rfl rfl rfl ((congrFun hev _).trans rfl) ((congrFun hev _).trans rfl) rfl (by intro _ h; cases h) (by intro _ h; cases h) (Mix.low_heap hb3 D0) (by simp) (by kernel_rfl) ?_
  intro W3 hu
  have E0 := hu.at_
  simp only [List.setIfInBounds_toArray, List.set_cons_succ, List.set_cons_zero, U2.out] at E0
  have E1 := (hu.ne _ N10.out).trans (Mix.low_heap hb3 D1)
  have E2 := (hu.ne _ N20.out).trans (Mix.low_heap hb3 D2)
  have HS' : Hid (w.heap.size + 3 ≤ W3.heap.size) := Hid_mk (by have h1 := HS.out; have h2 := hb3.size; have h3 := hu.size; omega)
  have HB' : Hid (Below w.heap.size w W3) := Hid_mk ((HB.out.trans (hb3.mono (by have h1 := HS.out; omega))).trans (hu.below (Nat.le_refl _)))
  refine wpList_nil ?_
  simp [Mix.putAll, Act.put, Mix.ev, Mix.look, Mix.intV, U2.out]
  clear hev hu hb3 D0 D1 D2 HS HB U2 w3 W2
  have D0 := E0
  have D1 := E1
  have D2 := E2
  have HS := HS'
  have HB := HB'
  clear E0 E1 E2 HS' HB'
  go_wp2
  rw [rounds_succ]; go_wp2
  refine Mix.wp_region_vals 11 (by kernel_rfl) (by kernel_rfl) ?_
  refine Mix.evB_stepV _ rfl rfl rfl rfl (Mix.gives_move rfl rfl) ?_
  refine Mix.evB_stepV _ rfl rfl rfl rfl (Mix.gives_fa rfl rfl Tryd.underlying30 rfl Tryd.sizeOf28) ?_
  refine Mix.evB_stepV _ rfl rfl rfl rfl (Mix.gives_ia rfl rfl rfl Tryd.underlying28 Tryd.sizeOf27 (by decide)) ?_
  first | (refine Mix.evB_stepV _ rfl rfl rfl rfl (Mix.gives_loadOne rfl rfl D0 Tryd.underlying27 rfl rfl) ?_) | (refine Mix.evB_stepV _ rfl rfl rfl rfl (Mix.gives_loadOne rfl rfl D1 Tryd.underlying27 rfl rfl) ?_)
  refine Mix.evB_stepV _ rfl rfl rfl rfl (Mix.gives_move rfl rfl) ?_
  refine Mix.evB_stepV _ rfl rfl rfl rfl (Mix.gives_fa rfl rfl Tryd.underlying30 rfl Tryd.sizeOf28) ?_
  refine Mix.evB_stepV _ rfl rfl rfl rfl (Mix.gives_ia rfl rfl rfl Tryd.underlying28 Tryd.sizeOf27 (by decide)) ?_
  first | (refine Mix.evB_stepV _ rfl rfl rfl rfl (Mix.gives_loadOne rfl rfl D0 Tryd.underlying27 rfl rfl) ?_) | (refine Mix.evB_stepV _ rfl rfl rfl rfl (Mix.gives_loadOne rfl rfl D1 Tryd.underlying27 rfl rfl) ?_)
  refine Mix.evB_stepV _ rfl rfl rfl rfl (Mix.gives_int rfl rfl rfl rfl) ?_
  refine Mix.evB_stepV _ rfl rfl rfl rfl (Mix.gives_fa rfl rfl Tryd.underlying30 rfl Tryd.sizeOf28) ?_
  refine Mix.evB_stepV _ rfl rfl rfl rfl (Mix.gives_ia rfl rfl rfl Tryd.underlying28 Tryd.sizeOf27 (by decide)) ?_
  refine Mix.evB_nil ?_
  intro w3 hb3 hev
  refine Mix.wpList_storeOne (v := .int .u64 (IntKind.u64.wrap (a3 + 4503599627370494 - c3))) (off := 3) rfl rfl rfl ((congrFun hev _).trans rfl) ((congrFun hev _).trans rfl) rfl (by intro _ h; cases h) (by intro _ h; cases h) (Mix.low_heap hb3 D0) (by simp) (by kernel_rfl) ?_
  intro W4 hu
  have E0 := hu.at_
  simp only [List.setIfInBounds_toArray, List.set_cons_succ, List.set_cons_zero, U3.out] at E0
  have E1 := (hu.ne _ N10.out).trans (Mix.low_heap hb3 D1)
  have E2 := (hu.ne _ N20.out).trans (Mix.low_heap hb3 D2)
  have HS' : Hid (w.heap.size + 3 ≤ W4.heap.size) := Hid_mk (by have h1 := HS.out; have h2 := hb3.size; have h3 := hu.size; omega)
  have HB' : Hid (Below w.heap.size w W4) := Hid_mk ((HB.out.trans (hb3.mono (by have h1 := HS.out; omega))).trans (hu.below (Nat.le_refl _)))
  refine wpList_nil ?_
  simp [Mix.putAll, Act.put, Mix.ev, Mix.look, Mix.intV, U3.out]
  clear hev hu hb3 D0 D1 D2 HS HB U3 w3 W3
  have D0 := E0
  have D1 := E1
  have D2 := E2
  have HS := HS'
  have HB := HB'
  clear E0 E1 E2 HS' HB'
  go_wp2
  rw [rounds_succ]; go_wp2
  refine Mix.wp_region_vals 11 (by kernel_rfl) (by kernel_rfl) ?_
  refine Mix.evB_stepV _ rfl rfl rfl rfl (Mix.gives_move rfl rfl) ?_
  refine Mix.evB_stepV _ rfl rfl rfl rfl (Mix.gives_fa rfl rfl Tryd.underlying30 rfl Tryd.sizeOf28) ?_
  refine Mix.evB_stepV _ rfl rfl rfl rfl (Mix.gives_ia rfl rfl rfl Tryd.underlying28 Tryd.sizeOf27 (by decide)) ?_
  first | (refine Mix.evB_stepV _ rfl rfl rfl rfl (Mix.gives_loadOne rfl rfl D0 Tryd.underlying27 rfl rfl) ?_) | (refine Mix.evB_stepV _ rfl rfl rfl rfl (Mix.gives_loadOne rfl rfl D1 Tryd.underlying27 rfl rfl) ?_)
  refine Mix.evB_stepV _ rfl rfl rfl rfl (Mix.gives_move rfl rfl) ?_
  refine Mix.evB_stepV _ rfl rfl rfl rfl (Mix.gives_fa rfl rfl Tryd.underlying30 rfl Tryd.sizeOf28) ?_
  refine Mix.evB_stepV _ rfl rfl rfl rfl (Mix.gives_ia rfl rfl rfl Tryd.underlying28 Tryd.sizeOf27 (by decide)) ?_
  first | (refine Mix.evB_stepV _ rfl rfl rfl rfl (Mix.gives_loadOne rfl rfl D0 Tryd.underlying27 rfl rfl) ?_) | (refine Mix.evB_stepV _ rfl rfl rfl rfl (Mix.gives_loadOne rfl rfl D1 Tryd.underlying27 rfl rfl) ?_)
  refine Mix.evB_stepV _ rfl rfl rfl rfl (Mix.gives_int rfl rfl rfl rfl) ?_
  refine Mix.evB_stepV _ rfl rfl rfl rfl (Mix.gives_fa rfl rfl Tryd.underlying30 rfl Tryd.sizeOf28) ?_
  refine Mix.evB_stepV _ rfl rfl rfl rfl (Mix.gives_ia rfl rfl rfl Tryd.underlying28 Tryd.sizeOf27 (by decide)) ?_
  refine Mix.evB_nil ?_
  intro w3 hb3 hev
  refine Mix.wpList_storeOne (v := .int .u64 (IntKind.u64.wrap (a4 + 4503599627370494 - c4))) (off := 4) rfl rfl rfl ((congrFun hev _).trans rfl) ((congrFun hev _).trans rfl) rfl (by intro _ h; cases h) (by intro _ h; cases h) (Mix.low_heap hb3 D0) (by simp) (by kernel_rfl) ?_
  intro W5 hu
  have E0 := hu.at_
  simp only [List.setIfInBounds_toArray, List.set_cons_succ, List.set_cons_zero, U4.out] at E0
  have E1 := (hu.ne _ N10.out).trans (Mix.low_heap hb3 D1)
  have E2 := (hu.ne _ N20.out).trans (Mix.low_heap hb3 D2)
  have HS' : Hid (w.heap.size + 3 ≤ W5.heap.size) := Hid_mk (by have h1 := HS.out; have h2 := hb3.size; have h3 := hu.size; omega)
  have HB' : Hid (Below w.heap.size w W5) := Hid_mk ((HB.out.trans (hb3.mono (by have h1 := HS.out; omega))).trans (hu.below (Nat.le_refl _)))
  refine wpList_nil ?_
  simp [Mix.putAll, Act.put, Mix.ev, Mix.look, Mix.intV, U4.out]
  clear hev hu hb3 D0 D1 D2 HS HB U4 w3 W4
  have D0 := E0
  have D1 := E1
  have D2 := E2
  have HS := HS'
  have HB := HB'
  clear E0 E1 E2 HS' HB'
  go_wp2
  obtain ⟨z0, y0⟩ := blk D0
  have hsz := HS.out
  rw [rounds_succ]
  go_wp2_with (go_at_call 23; refine (carry_any _ _ _ _ _ _ (by omega) (by omega) (by omega) (by omega) (by omega)).mono ?_; rintro e w2 ⟨rfl, hb2⟩; obtain ⟨z2, y2⟩ := blk ((hb2.block _ (by omega)).trans D2))
  refine bodyPost_ret (by simp [results, Tryd.results11, go_sem, z2]; rfl) rfl ?_
  refine ⟨rfl, ?_⟩
  go_grown
  exact HB.out.trans (hb2.mono (by omega))

end Go.Proofs.YtbonnnakebfniaaDoor
