/- field: Zero. -/
import Derived.Test.YtbonnnakebfniaaDoorFo
namespace Go.Proofs.YtbonnnakebfniaaDoor
open Go Go.RowKit Num

set_option maxHeartbeats 1000000 in
set_option maxRecDepth 100000 in
theorem eq5 (c0 c1 c2 c3 c4 d0 d1 d2 d3 d4 : Int) (w : World) : (Op.equalIn 9999 28 (.agg #[.int .u64 c0, .int .u64 c1, .int .u64 c2, .int .u64 c3, .int .u64 c4]) (.agg #[.int .u64 d0, .int .u64 d1, .int .u64 d2, .int .u64 d3, .int .u64 d4])).run Tryd.prog w = .ok (decide (c0 = d0 ∧ c1 = d1 ∧ c2 = d2 ∧ c3 = d3 ∧ c4 = d4)) w := by
  have u3 := Tryd.underlying27
  have a3 := Tryd.isAgg27
  have z3 := Tryd.sizeOf27
  rw [show (9999 : Nat) = 9998 + 1 from rfl, Op.equalIn]
  simp only [Sem.run_bind, run_underlying Tryd.underlying28, Result.andThen_ok]
  simp only [Std.Legacy.Range.forIn_eq_forIn_range', Std.Legacy.Range.size, Nat.sub_zero, Nat.add_sub_cancel, Nat.div_one, List.range'_succ, List.range'_zero, List.forIn_cons, List.forIn_nil]
  go_simp
  by_cases h0 : c0 = d0 <;> by_cases h1 : c1 = d1 <;> by_cases h2 : c2 = d2 <;> by_cases h3 : c3 = d3 <;> by_cases h4 : c4 = d4 <;> simp [h0, h1, h2, h3, h4]

set_option maxHeartbeats 1000000 in
set_option maxRecDepth 100000 in
theorem zero_any (a0 a1 a2 a3 a4 c0 c1 c2 c3 c4 : Int) (w : World) (hm : Hid (Pure 28 #[elV a0 a1 a2 a3 a4] (elV c0 c1 c2 c3 c4))) :
    Calls Tryd.prog 15 #[elV a0 a1 a2 a3 a4] w fun e w' => e = .returned (.bool (decide (c0 = 0 ∧ c1 = 0 ∧ c2 = 0 ∧ c3 = 0 ∧ c4 = 0))) ∧ Below w.heap.size w w' := by
  have hq : ∀ w, Sem.run Tryd.prog (Op.equalIn 9999 28 (.agg #[.int .u64 c0, .int .u64 c1, .int .u64 c2, .int .u64 c3, .int .u64 c4]) (.agg #[.int .u64 0, .int .u64 0, .int .u64 0, .int .u64 0, .int .u64 0])) w = .ok (decide (c0 = 0 ∧ c1 = 0 ∧ c2 = 0 ∧ c3 = 0 ∧ c4 = 0)) w := fun w => eq5 c0 c1 c2 c3 c4 0 0 0 0 0 w
  generalize decide (c0 = 0 ∧ c1 = 0 ∧ c2 = 0 ∧ c3 = 0 ∧ c4 = 0) = b at hq ⊢
  cases b
  all_goals go_enter Tryd.func15, Tryd.ntmps15
  all_goals go_wp2_with (go_at_call 28; refine (hm.out _).mono ?_; rintro e w1 ⟨rfl, hb⟩; clear hm)
  all_goals refine bodyPost_ret (by simp [results, Tryd.results15, go_sem]; rfl) rfl ?_
  all_goals refine ⟨rfl, ?_⟩
  all_goals go_grown
  all_goals refine Below.trans ?_ (hb.mono (by simp))
  all_goals go_grown

theorem dig_n {n : Int} (h : 0 ≤ n ∧ n < 57896044618658097711785492504343953926634992332820282019728792003956564819968) : (digE n).n = n := by
  simp only [El.n, lv]
  obtain ⟨n1, e1⟩ : ∃ t, t = n / 2251799813685248 := ⟨_, rfl⟩
  obtain ⟨n2, e2⟩ : ∃ t, t = n1 / 2251799813685248 := ⟨_, rfl⟩
  obtain ⟨n3, e3⟩ : ∃ t, t = n2 / 2251799813685248 := ⟨_, rfl⟩
  obtain ⟨n4, e4⟩ : ∃ t, t = n3 / 2251799813685248 := ⟨_, rfl⟩
  rw [show n / 5070602400912917605986812821504 = n2 by omega, show n / 11417981541647679048466287755595961091061972992 = n3 by omega, show n / 25711008708143844408671393477458601640355247900524685364822016 = n4 by omega, ← e1]
  omega

theorem val_bd (m : F) : 0 ≤ (m.val : Int) ∧ (m.val : Int) < 57896044618658097711785492504343953926634992332820282019728792003956564819968 := by
  have h : m.val < 57896044618658097711785492504343953926634992332820282019728792003956564819949 := m.isLt
  generalize m.val = k at h
  omega

theorem leastE_inj {m n : F} (h : leastE m = leastE n) : m = n := by
  have h1 := dig_n (val_bd m)
  have h2 := dig_n (val_bd n)
  have h3 : digE (m.val : Int) = digE (n.val : Int) := h
  rw [h3, h2] at h1
  exact Fin.ext (by exact_mod_cast h1.symm)

theorem zero_E {a : El} {m : F} (ha : IsL a m) : Pure 15 #[a.v] (.bool (decide (m = 0))) := by
  intro w
  have h := zero_any a.l0 a.l1 a.l2 a.l3 a.l4 (leastE m).l0 (leastE m).l1 (leastE m).l2 (leastE m).l3 (leastE m).l4 w (Hid_mk (least_E ha))
  have e : decide ((leastE m).l0 = 0 ∧ (leastE m).l1 = 0 ∧ (leastE m).l2 = 0 ∧ (leastE m).l3 = 0 ∧ (leastE m).l4 = 0) = decide (m = 0) := by
    refine decide_eq_decide.2 ⟨fun g => ?_, fun g => by subst g; decide⟩
    obtain ⟨g0, g1, g2, g3, g4⟩ := g
    have h1 := dig_n (val_bd m)
    simp only [El.n, lv] at h1
    simp only at g0 g1 g2 g3 g4
    have : (m.val : Int) = 0 := by rw [← h1, g0, g1, g2, g3, g4]; decide
    exact_mod_cast this
  rw [e] at h
  exact h

end Go.Proofs.YtbonnnakebfniaaDoor
