/- field: powers, Invert. -/
import Derived.Test.YtbonnnakebfniaaDoorFp
namespace Go.Proofs.YtbonnnakebfniaaDoor
open Go Go.RowKit Num

theorem expo21 : expo 235 255 = nP := by rw [nP_eq]; decide +kernel
theorem expo20 : expo 236 253 = (Num.P - 1) / 4 := by decide +kernel
theorem expo24 : expo 232 252 = (Num.P - 5) / 8 := by decide +kernel

theorem pow21_E {a : El} {m : F} (ha : IsL a m) : ∃ c : El, IsL c (inv m) ∧ Pure 27 #[a.v, .int .u64 21, .int .i64 0] c.v := by
  obtain ⟨f, s, hp⟩ := powers 235 ha
  refine ⟨f 255, ?_, fun w => power21_walk a m f s (Hid_mk hp) w⟩
  show IsL _ (pw m nP)
  rw [← expo21]; exact hp.is_ 255
theorem pow20_E {a : El} {m : F} (ha : IsL a m) : ∃ c : El, IsL c (pw m ((Num.P - 1) / 4)) ∧ Pure 27 #[a.v, .int .u64 20, .int .i64 2] c.v := by
  obtain ⟨f, s, hp⟩ := powers 236 ha
  refine ⟨f 253, ?_, fun w => power20_walk a m f s (Hid_mk hp) w⟩
  rw [← expo20]; exact hp.is_ 253
theorem pow24_E {a : El} {m : F} (ha : IsL a m) : ∃ c : El, IsL c (pw m ((Num.P - 5) / 8)) ∧ Pure 27 #[a.v, .int .u64 24, .int .i64 3] c.v := by
  obtain ⟨f, s, hp⟩ := powers 232 ha
  refine ⟨f 252, ?_, fun w => power24_walk a m f s (Hid_mk hp) w⟩
  rw [← expo24]; exact hp.is_ 252

set_option maxHeartbeats 1000000 in
theorem invert_any (a0 a1 a2 a3 a4 c0 c1 c2 c3 c4 : Int) (w : World) (hm : Hid (Pure 27 #[elV a0 a1 a2 a3 a4, .int .u64 21, .int .i64 0] (elV c0 c1 c2 c3 c4))) :
    Calls Tryd.prog 12 #[elV a0 a1 a2 a3 a4] w fun e w' => e = .returned (elV c0 c1 c2 c3 c4) ∧ Below w.heap.size w w' := by
  go_enter Tryd.func12, Tryd.ntmps12
  go_wp2_with (go_at_call 27; refine (hm.out _).mono ?_; rintro e w1 ⟨rfl, hb⟩; obtain ⟨hc, hf⟩ := bcell hb)
  refine bodyPost_ret (by simp [results, Tryd.results12, go_sem, hc]; rfl) rfl ?_
  refine ⟨rfl, ?_⟩
  go_grown
  refine Below.trans ?_ (hb.mono (by simp; omega))
  go_grown

/-- The inverse (0 of 0). -/
theorem invert_E {a : El} {m : F} (ha : IsL a m) : ∃ c : El, IsL c (inv m) ∧ Pure 12 #[a.v] c.v := by
  obtain ⟨c, hc, hp⟩ := pow21_E ha
  exact ⟨c, hc, fun w => invert_any _ _ _ _ _ _ _ _ _ _ w (Hid_mk hp)⟩

end Go.Proofs.YtbonnnakebfniaaDoor
