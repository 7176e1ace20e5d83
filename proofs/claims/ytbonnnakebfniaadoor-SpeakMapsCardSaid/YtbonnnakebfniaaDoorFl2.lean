/- field.least: the walk. -/
import Derived.Test.YtbonnnakebfniaaDoorFl
namespace Go.Proofs.YtbonnnakebfniaaDoor
open Go Go.RowKit Num

/-- Is it p, or more? -/
abbrev leQ (c0 c1 c2 c3 c4 : Int) : Int := (c4 + (c3 + (c2 + (c1 + (c0 + 19) / 2251799813685248) / 2251799813685248) / 2251799813685248) / 2251799813685248) / 2251799813685248
abbrev leV (q c0 c1 c2 c3 c4 : Int) : Value := elV ((c0 + q * 19) % 2251799813685248) (cr1 (c0 + q * 19) c1 % 2251799813685248) (cr2 (c0 + q * 19) c1 c2 % 2251799813685248) (cr3 (c0 + q * 19) c1 c2 c3 % 2251799813685248) (cr4 (c0 + q * 19) c1 c2 c3 c4 % 2251799813685248)

set_option maxHeartbeats 2000000 in
set_option maxRecDepth 100000 in
theorem least_walk (a b c : El) (w : World) (hp1 : Hid (Pure 23 #[a.v] b.v)) (hp2 : Hid (Pure 23 #[b.v] c.v))
    (h0 : 0 ≤ c.l0 ∧ c.l0 < 2251799813685248) (h1 : 0 ≤ c.l1 ∧ c.l1 < 2251799813685248) (h2 : 0 ≤ c.l2 ∧ c.l2 < 2251799813685248) (h3 : 0 ≤ c.l3 ∧ c.l3 < 2251799813685248) (h4 : 0 ≤ c.l4 ∧ c.l4 < 2251799813685248) :
    Calls Tryd.prog 28 #[a.v] w fun e w' => e = .returned (leV (leQ c.l0 c.l1 c.l2 c.l3 c.l4) c.l0 c.l1 c.l2 c.l3 c.l4) ∧ Below w.heap.size w w' := by
  obtain ⟨a0, a1, a2, a3, a4⟩ := a
  obtain ⟨b0, b1, b2, b3, b4⟩ := b
  obtain ⟨c0, c1, c2, c3, c4⟩ := c
  simp only at h0 h1 h2 h3 h4
  simp only [leQ]
  go_enter Tryd.func28, Tryd.ntmps28
  go_wp2_with (go_at_call 23; refine (hp1.out _).mono ?_; rintro e w1 ⟨rfl, hb⟩; have x0 : w1.heap[w.heap.size]? = some (.cells #[.int .u64 a0, .int .u64 a1, .int .u64 a2, .int .u64 a3, .int .u64 a4] 30 (0, 0)) := (by rw [hb.block _ (by simp; omega), heap_alloc_lt (by simp), heap_alloc_eq rfl]); have x1 : w1.heap[w.heap.size + 1]? = some (.cells #[.int .u64 0, .int .u64 0, .int .u64 0, .int .u64 0, .int .u64 0] 30 (0, 0)) := (by rw [hb.block _ (by simp), heap_alloc_eq (by simp)]); clear hp1)
  go_wp2_with (go_at_call 23; refine (hp2.out _).mono ?_; rintro e w2 ⟨rfl, hb2⟩; have q0 := Mix.low_heap hb2 x0; have q1 := Mix.low_heap hb2 x1; obtain ⟨z0, y0⟩ := blk q0; obtain ⟨z1, y1⟩ := blk q1; clear hp2)
  have i0 : ∀ w, Sem.run Tryd.prog (Instr.index 28 (.agg #[.int .u64 c0, .int .u64 c1, .int .u64 c2, .int .u64 c3, .int .u64 c4]) (.int .i64 0)) w = .ok (.int .u64 c0) w := fun w => rfl
  have i1 : ∀ w, Sem.run Tryd.prog (Instr.index 28 (.agg #[.int .u64 c0, .int .u64 c1, .int .u64 c2, .int .u64 c3, .int .u64 c4]) (.int .i64 1)) w = .ok (.int .u64 c1) w := fun w => rfl
  have i2 : ∀ w, Sem.run Tryd.prog (Instr.index 28 (.agg #[.int .u64 c0, .int .u64 c1, .int .u64 c2, .int .u64 c3, .int .u64 c4]) (.int .i64 2)) w = .ok (.int .u64 c2) w := fun w => rfl
  have i3 : ∀ w, Sem.run Tryd.prog (Instr.index 28 (.agg #[.int .u64 c0, .int .u64 c1, .int .u64 c2, .int .u64 c3, .int .u64 c4]) (.int .i64 3)) w = .ok (.int .u64 c3) w := fun w => rfl
  have i4 : ∀ w, Sem.run Tryd.prog (Instr.index 28 (.agg #[.int .u64 c0, .int .u64 c1, .int .u64 c2, .int .u64 c3, .int .u64 c4]) (.int .i64 4)) w = .ok (.int .u64 c4) w := fun w => rfl
  refine wp_loop_rounds 6 ?_
  rw [rounds_succ]; go_wp2
  rw [rounds_succ]; go_wp2
  rw [rounds_succ]; go_wp2
  rw [rounds_succ]; go_wp2
  rw [rounds_succ]; go_wp2
  rw [rounds_succ]; go_wp2
  have hq0 : 0 ≤ (c4 + (c3 + (c2 + (c1 + (c0 + 19) / 2251799813685248) / 2251799813685248) / 2251799813685248) / 2251799813685248) / 2251799813685248 ∧ (c4 + (c3 + (c2 + (c1 + (c0 + 19) / 2251799813685248) / 2251799813685248) / 2251799813685248) / 2251799813685248) / 2251799813685248 ≤ 1 := by omega
  generalize hqe : (c4 + (c3 + (c2 + (c1 + (c0 + 19) / 2251799813685248) / 2251799813685248) / 2251799813685248) / 2251799813685248) / 2251799813685248 = q at hq0 ⊢
  have hqh := Hid_mk hqe
  clear hqe
  generalize hW : World.setCell _ (⟨w.heap.size, 0, none⟩ : Addr) _ = W
  have hWa : W.heap[w.heap.size]? = some (.cells #[.int .u64 (c0 + q * 19), .int .u64 c1, .int .u64 c2, .int .u64 c3, .int .u64 c4] 30 (0, 0)) := by
    rw [← hW]; exact heap_set_eq (set5 _ _ _ _ _ q0)
  have hWo : W.heap[w.heap.size + 1]? = some (.cells #[.int .u64 0, .int .u64 0, .int .u64 0, .int .u64 0, .int .u64 0] 30 (0, 0)) := by
    rw [← hW, heap_set_ne (by omega)]; exact (set5_ne _ _ _ _ _ (by omega)).trans q1
  have hlow : Below w.heap.size w W := by
    rw [← hW]; go_grown
    have := hb2.size
    have := hb.size
    simp at this
    refine Below.trans ?_ (hb2.mono (by omega))
    refine Below.trans ?_ (hb.mono (by simp; omega))
    go_grown
  clear hW hb hb2 x0 x1 q0 q1 z0 y0 z1 y1 i0 i1 i2 i3 i4
  refine wp_loop_rounds 6 ?_
  have hw : w.heap.size < W.heap.size := (Array.getElem?_eq_some_iff.1 hWa).1
  obtain ⟨z0, y0⟩ := blk hWa
  obtain ⟨z1, y1⟩ := blk hWo
  have hx : 0 ≤ (c0 + q * 19) ∧ (c0 + q * 19) < 2251799813685300 := by omega
  have hm : bits .and .u64 (c0 + q * 19) 2251799813685247 = (c0 + q * 19) % 2251799813685248 := mask51 _ (by omega) (by omega)
  rw [rounds_succ]; go_wp2
  generalize hW : World.setCell _ (⟨w.heap.size, 0, none⟩ : Addr) _ = V0
  have hVa : V0.heap[w.heap.size]? = some (.cells #[.int .u64 ((c0 + q * 19) % 2251799813685248), .int .u64 (c1), .int .u64 (c2), .int .u64 (c3), .int .u64 (c4)] 30 (0, 0)) := by rw [← hW]; exact heap_set_eq (heap_set_eq hWa)
  have hVo : V0.heap[w.heap.size + 1]? = some (.cells #[.int .u64 0, .int .u64 0, .int .u64 0, .int .u64 0, .int .u64 0] 30 (0, 0)) := by rw [← hW, heap_set_ne (by omega), heap_set_ne (by omega)]; exact hWo
  have hVl : Below w.heap.size w V0 := by
    rw [← hW]; go_grown
    all_goals exact hlow
  clear hW hm z0 y0 z1 y1 hWa hWo hlow hw
  have hWa := hVa
  have hWo := hVo
  have hlow := hVl
  clear hVa hVo hVl
  obtain ⟨r0, hr0⟩ : ∃ r, r = (c0 + q * 19) / 2251799813685248 := ⟨_, rfl⟩
  rw [← hr0]
  have hb0 : 0 ≤ r0 ∧ r0 ≤ 1 := by omega
  have hh0 := Hid_mk hr0
  clear hr0 hx
  obtain ⟨z0, y0⟩ := blk hWa
  obtain ⟨z1, y1⟩ := blk hWo
  have hx : 0 ≤ (c1 + r0) ∧ (c1 + r0) < 2251799813685300 := by omega
  have hm : bits .and .u64 (c1 + r0) 2251799813685247 = (c1 + r0) % 2251799813685248 := mask51 _ (by omega) (by omega)
  rw [rounds_succ]; go_wp2
  generalize hW : World.setCell _ (⟨w.heap.size, 1, none⟩ : Addr) _ = V1
  have hVa : V1.heap[w.heap.size]? = some (.cells #[.int .u64 ((c0 + q * 19) % 2251799813685248), .int .u64 ((c1 + r0) % 2251799813685248), .int .u64 (c2), .int .u64 (c3), .int .u64 (c4)] 30 (0, 0)) := by rw [← hW]; exact heap_set_eq (heap_set_eq hWa)
  have hVo : V1.heap[w.heap.size + 1]? = some (.cells #[.int .u64 0, .int .u64 0, .int .u64 0, .int .u64 0, .int .u64 0] 30 (0, 0)) := by rw [← hW, heap_set_ne (by omega), heap_set_ne (by omega)]; exact hWo
  have hVl : Below w.heap.size w V1 := by
    rw [← hW]; go_grown
    all_goals exact hlow
  clear hW hm z0 y0 z1 y1 hWa hWo hlow
  have hWa := hVa
  have hWo := hVo
  have hlow := hVl
  clear hVa hVo hVl
  obtain ⟨r1, hr1⟩ : ∃ r, r = (c1 + r0) / 2251799813685248 := ⟨_, rfl⟩
  rw [← hr1]
  have hb1 : 0 ≤ r1 ∧ r1 ≤ 1 := by omega
  have hh1 := Hid_mk hr1
  clear hr1 hx
  obtain ⟨z0, y0⟩ := blk hWa
  obtain ⟨z1, y1⟩ := blk hWo
  have hx : 0 ≤ (c2 + r1) ∧ (c2 + r1) < 2251799813685300 := by omega
  have hm : bits .and .u64 (c2 + r1) 2251799813685247 = (c2 + r1) % 2251799813685248 := mask51 _ (by omega) (by omega)
  rw [rounds_succ]; go_wp2
  generalize hW : World.setCell _ (⟨w.heap.size, 2, none⟩ : Addr) _ = V2
  have hVa : V2.heap[w.heap.size]? = some (.cells #[.int .u64 ((c0 + q * 19) % 2251799813685248), .int .u64 ((c1 + r0) % 2251799813685248), .int .u64 ((c2 + r1) % 2251799813685248), .int .u64 (c3), .int .u64 (c4)] 30 (0, 0)) := by rw [← hW]; exact heap_set_eq (heap_set_eq hWa)
  have hVo : V2.heap[w.heap.size + 1]? = some (.cells #[.int .u64 0, .int .u64 0, .int .u64 0, .int .u64 0, .int .u64 0] 30 (0, 0)) := by rw [← hW, heap_set_ne (by omega), heap_set_ne (by omega)]; exact hWo
  have hVl : Below w.heap.size w V2 := by
    rw [← hW]; go_grown
    all_goals exact hlow
  clear hW hm z0 y0 z1 y1 hWa hWo hlow
  have hWa := hVa
  have hWo := hVo
  have hlow := hVl
  clear hVa hVo hVl
  obtain ⟨r2, hr2⟩ : ∃ r, r = (c2 + r1) / 2251799813685248 := ⟨_, rfl⟩
  rw [← hr2]
  have hb2 : 0 ≤ r2 ∧ r2 ≤ 1 := by omega
  have hh2 := Hid_mk hr2
  clear hr2 hx
  obtain ⟨z0, y0⟩ := blk hWa
  obtain ⟨z1, y1⟩ := blk hWo
  have hx : 0 ≤ (c3 + r2) ∧ (c3 + r2) < 2251799813685300 := by omega
  have hm : bits .and .u64 (c3 + r2) 2251799813685247 = (c3 + r2) % 2251799813685248 := mask51 _ (by omega) (by omega)
  rw [rounds_succ]; go_wp2
  generalize hW : World.setCell _ (⟨w.heap.size, 3, none⟩ : Addr) _ = V3
  have hVa : V3.heap[w.heap.size]? = some (.cells #[.int .u64 ((c0 + q * 19) % 2251799813685248), .int .u64 ((c1 + r0) % 2251799813685248), .int .u64 ((c2 + r1) % 2251799813685248), .int .u64 ((c3 + r2) % 2251799813685248), .int .u64 (c4)] 30 (0, 0)) := by rw [← hW]; exact heap_set_eq (heap_set_eq hWa)
  have hVo : V3.heap[w.heap.size + 1]? = some (.cells #[.int .u64 0, .int .u64 0, .int .u64 0, .int .u64 0, .int .u64 0] 30 (0, 0)) := by rw [← hW, heap_set_ne (by omega), heap_set_ne (by omega)]; exact hWo
  have hVl : Below w.heap.size w V3 := by
    rw [← hW]; go_grown
    all_goals exact hlow
  clear hW hm z0 y0 z1 y1 hWa hWo hlow
  have hWa := hVa
  have hWo := hVo
  have hlow := hVl
  clear hVa hVo hVl
  obtain ⟨r3, hr3⟩ : ∃ r, r = (c3 + r2) / 2251799813685248 := ⟨_, rfl⟩
  rw [← hr3]
  have hb3 : 0 ≤ r3 ∧ r3 ≤ 1 := by omega
  have hh3 := Hid_mk hr3
  clear hr3 hx
  obtain ⟨z0, y0⟩ := blk hWa
  obtain ⟨z1, y1⟩ := blk hWo
  have hx : 0 ≤ (c4 + r3) ∧ (c4 + r3) < 2251799813685300 := by omega
  have hm : bits .and .u64 (c4 + r3) 2251799813685247 = (c4 + r3) % 2251799813685248 := mask51 _ (by omega) (by omega)
  rw [rounds_succ]; go_wp2
  generalize hW : World.setCell _ (⟨w.heap.size, 4, none⟩ : Addr) _ = V4
  have hVa : V4.heap[w.heap.size]? = some (.cells #[.int .u64 ((c0 + q * 19) % 2251799813685248), .int .u64 ((c1 + r0) % 2251799813685248), .int .u64 ((c2 + r1) % 2251799813685248), .int .u64 ((c3 + r2) % 2251799813685248), .int .u64 ((c4 + r3) % 2251799813685248)] 30 (0, 0)) := by rw [← hW]; exact heap_set_eq (heap_set_eq hWa)
  have hVo : V4.heap[w.heap.size + 1]? = some (.cells #[.int .u64 0, .int .u64 0, .int .u64 0, .int .u64 0, .int .u64 0] 30 (0, 0)) := by rw [← hW, heap_set_ne (by omega), heap_set_ne (by omega)]; exact hWo
  have hVl : Below w.heap.size w V4 := by
    rw [← hW]; go_grown
    all_goals exact hlow
  clear hW hm z0 y0 z1 y1 hWa hWo hlow
  have hWa := hVa
  have hWo := hVo
  have hlow := hVl
  clear hVa hVo hVl
  obtain ⟨r4, hr4⟩ : ∃ r, r = (c4 + r3) / 2251799813685248 := ⟨_, rfl⟩
  rw [← hr4]
  have hb4 : 0 ≤ r4 ∧ r4 ≤ 1 := by omega
  have hh4 := Hid_mk hr4
  clear hr4 hx
  obtain ⟨z0, y0⟩ := blk hWa
  obtain ⟨z1, y1⟩ := blk hWo
  rw [rounds_succ]; go_wp2
  refine bodyPost_ret (by simp [results, Tryd.results28, go_sem, z1]; rfl) rfl ?_
  refine ⟨?_, ?_⟩
  · have gq := hqh.out
    rw [gq]
    have g0 := hh0.out
    have g1 := hh1.out
    have g2 := hh2.out
    have g3 := hh3.out
    refine ret_el rfl ?_ ?_ ?_ ?_
    · rw [g0]
    · rw [g1, g0]
    · rw [g2, g1, g0]
    · rw [g3, g2, g1, g0]
  · go_grown
    all_goals exact hlow

end Go.Proofs.YtbonnnakebfniaaDoor
