/- field: Square, Neg, Small, Choose. -/
import Derived.Test.YtbonnnakebfniaaDoorFc
namespace Go.Proofs.YtbonnnakebfniaaDoor
open Go Go.RowKit Num

theorem zero_is : IsL ⟨0, 0, 0, 0, 0⟩ 0 := by
  refine ⟨by decide, by decide, by decide, by decide, by decide, ?_⟩
  show toF (lv 0 0 0 0 0) = 0
  simp only [lv]; decide

set_option maxHeartbeats 1000000 in
theorem sq_any (a0 a1 a2 a3 a4 c0 c1 c2 c3 c4 : Int) (w : World) (hm : Hid (Pure 10 #[elV a0 a1 a2 a3 a4, elV a0 a1 a2 a3 a4] (elV c0 c1 c2 c3 c4))) :
    Calls Tryd.prog 45 #[elV a0 a1 a2 a3 a4] w fun e w' => e = .returned (elV c0 c1 c2 c3 c4) ∧ Below w.heap.size w w' := by
  go_enter Tryd.func45, Tryd.ntmps45
  go_wp2_with (go_at_call 10; refine (hm.out _).mono ?_; rintro e w1 ⟨rfl, hb⟩; obtain ⟨hc, hf⟩ := bcell hb)
  refine bodyPost_ret (by simp [results, Tryd.results45, go_sem, hc]; rfl) rfl ?_
  refine ⟨rfl, ?_⟩
  go_grown
  refine Below.trans ?_ (hb.mono (by simp; omega))
  go_grown

theorem sq_E {a : El} {m : F} (ha : IsL a m) : ∃ c : El, IsL c (m * m) ∧ Pure 45 #[a.v] c.v := by
  obtain ⟨c, hc, hp⟩ := mul_E ha ha
  exact ⟨c, hc, fun w => sq_any _ _ _ _ _ _ _ _ _ _ w (Hid_mk hp)⟩

set_option maxHeartbeats 1000000 in
theorem neg_any (a0 a1 a2 a3 a4 c0 c1 c2 c3 c4 : Int) (w : World) (hm : Hid (Pure 11 #[elV 0 0 0 0 0, elV a0 a1 a2 a3 a4] (elV c0 c1 c2 c3 c4))) :
    Calls Tryd.prog 38 #[elV a0 a1 a2 a3 a4] w fun e w' => e = .returned (elV c0 c1 c2 c3 c4) ∧ Below w.heap.size w w' := by
  go_enter Tryd.func38, Tryd.ntmps38
  go_wp2_with (go_at_call 11; refine (hm.out _).mono ?_; rintro e w1 ⟨rfl, hb⟩; obtain ⟨hc, hf⟩ := bcell hb)
  refine bodyPost_ret (by simp [results, Tryd.results38, go_sem, hc]; rfl) rfl ?_
  refine ⟨rfl, ?_⟩
  go_grown
  refine Below.trans ?_ (hb.mono (by simp; omega))
  go_grown

theorem neg_E {a : El} {m : F} (ha : IsL a m) : ∃ c : El, IsL c (0 - m) ∧ Pure 38 #[a.v] c.v := by
  obtain ⟨c, hc, hp⟩ := sub_E zero_is ha
  exact ⟨c, hc, fun w => neg_any _ _ _ _ _ _ _ _ _ _ w (Hid_mk hp)⟩

set_option maxHeartbeats 1000000 in
theorem choose_any (b : Bool) (a0 a1 a2 a3 a4 c0 c1 c2 c3 c4 : Int) (w : World) :
    Calls Tryd.prog 55 #[.bool b, elV a0 a1 a2 a3 a4, elV c0 c1 c2 c3 c4] w fun e w' => e = .returned (if b then elV a0 a1 a2 a3 a4 else elV c0 c1 c2 c3 c4) ∧ Below w.heap.size w w' := by
  go_enter Tryd.func55, Tryd.ntmps55
  cases b
  all_goals go_wp2
  all_goals refine bodyPost_ret (by simp [results, Tryd.results55, go_sem]; rfl) rfl ?_
  all_goals refine ⟨by simp [elV], ?_⟩
  all_goals go_grown

theorem choose_E (b : Bool) (x y : El) : Pure 55 #[.bool b, x.v, y.v] (if b then x else y).v := fun w => by
  refine (choose_any b x.l0 x.l1 x.l2 x.l3 x.l4 y.l0 y.l1 y.l2 y.l3 y.l4 w).mono ?_
  rintro e w' ⟨rfl, hb⟩
  exact ⟨by cases b <;> rfl, hb⟩

end Go.Proofs.YtbonnnakebfniaaDoor
