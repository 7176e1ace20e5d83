/- field: Odd. -/
import Derived.Test.YtbonnnakebfniaaDoorFm2
namespace Go.Proofs.YtbonnnakebfniaaDoor
open Go Go.RowKit Num

set_option maxHeartbeats 1000000 in
set_option maxRecDepth 100000 in
theorem odd_any (a0 a1 a2 a3 a4 c0 c1 c2 c3 c4 : Int) (w : World) (hc0 : 0 ≤ c0 ∧ c0 < 2251799813685248) (hm : Hid (Pure 28 #[elV a0 a1 a2 a3 a4] (elV c0 c1 c2 c3 c4))) :
    Calls Tryd.prog 44 #[elV a0 a1 a2 a3 a4] w fun e w' => e = .returned (.bool (c0 % 2 == 1)) ∧ Below w.heap.size w w' := by
  have i0 : ∀ w, Sem.run Tryd.prog (Instr.index 28 (.agg #[.int .u64 c0, .int .u64 c1, .int .u64 c2, .int .u64 c3, .int .u64 c4]) (.int .i64 0)) w = .ok (.int .u64 c0) w := fun w => rfl
  have f0 : ∀ w, Sem.run Tryd.prog (Instr.field 30 (elV c0 c1 c2 c3 c4) 0) w = .ok (.agg #[.int .u64 c0, .int .u64 c1, .int .u64 c2, .int .u64 c3, .int .u64 c4]) w := fun w => rfl
  have hb1 : bits .and .u64 c0 1 = c0 % 2 := bits_mask .u64 64 (by decide) (fun n h0 h1 => by rw [IntKind.wrap_u64]; omega) 1 (by decide) c0 hc0.1 (by omega)
  go_enter Tryd.func44, Tryd.ntmps44
  go_wp2_with (go_at_call 28; refine (hm.out _).mono ?_; rintro e w1 ⟨rfl, hb⟩; clear hm)
  refine bodyPost_ret (by simp [results, Tryd.results44, go_sem]; rfl) rfl ?_
  refine ⟨rfl, ?_⟩
  go_grown
  refine Below.trans ?_ (hb.mono (by simp))
  go_grown

theorem odd_E {a : El} {m : F} (ha : IsL a m) : Pure 44 #[a.v] (.bool (m.val % 2 == 1)) := by
  intro w
  have h := odd_any a.l0 a.l1 a.l2 a.l3 a.l4 (leastE m).l0 (leastE m).l1 (leastE m).l2 (leastE m).l3 (leastE m).l4 w ⟨Int.emod_nonneg _ (by decide), Int.emod_lt_of_pos _ (by decide)⟩ (Hid_mk (least_E ha))
  have e : ((leastE m).l0 % 2 == 1) = (m.val % 2 == 1) := by
    rw [Bool.eq_iff_iff]; simp; omega
  rw [e] at h
  exact h

end Go.Proofs.YtbonnnakebfniaaDoor
