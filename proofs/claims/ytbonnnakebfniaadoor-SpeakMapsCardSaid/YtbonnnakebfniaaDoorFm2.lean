/- field.least: its digits are the number's. -/
import Derived.Test.YtbonnnakebfniaaDoorFl2
namespace Go.Proofs.YtbonnnakebfniaaDoor
open Go Go.RowKit Num

/-- A number's five limbs. -/
abbrev digE (n : Int) : El := ⟨n % 2251799813685248, n / 2251799813685248 % 2251799813685248, n / 5070602400912917605986812821504 % 2251799813685248, n / 11417981541647679048466287755595961091061972992 % 2251799813685248, n / 25711008708143844408671393477458601640355247900524685364822016 % 2251799813685248⟩
abbrev leastE (m : F) : El := digE (m.val : Int)

theorem leV_eq {c0 c1 c2 c3 c4 : Int} {m : F} (h0 : 0 ≤ c0 ∧ c0 < 2251799813685248) (h1 : 0 ≤ c1 ∧ c1 < 2251799813685248) (h2 : 0 ≤ c2 ∧ c2 < 2251799813685248) (h3 : 0 ≤ c3 ∧ c3 < 2251799813685248) (h4 : 0 ≤ c4 ∧ c4 < 2251799813685248)
    (hm : toF (lv c0 c1 c2 c3 c4) = m) : leV (leQ c0 c1 c2 c3 c4) c0 c1 c2 c3 c4 = (leastE m).v := by
  have hv : (m.val : Int) = lv c0 c1 c2 c3 c4 % pp := by rw [← hm]; exact toF_val _
  have e19 : leQ c0 c1 c2 c3 c4 = (lv c0 c1 c2 c3 c4 + 19) / 57896044618658097711785492504343953926634992332820282019728792003956564819968 := by
    simp only [leQ, lv]; omega
  have hq : lv c0 c1 c2 c3 c4 % pp = lv c0 c1 c2 c3 c4 - pp * leQ c0 c1 c2 c3 c4 := by
    rw [e19]
    have hb : 0 ≤ lv c0 c1 c2 c3 c4 ∧ lv c0 c1 c2 c3 c4 < 57896044618658097711785492504343953926634992332820282019728792003956564819968 := by simp only [lv]; omega
    generalize lv c0 c1 c2 c3 c4 = n at hb
    simp only [pp]
    omega
  have hq1 : 0 ≤ leQ c0 c1 c2 c3 c4 ∧ leQ c0 c1 c2 c3 c4 ≤ 1 := by simp only [leQ]; omega
  simp only [El.v]
  rw [hv, hq]
  generalize leQ c0 c1 c2 c3 c4 = q at *
  clear hv hq e19 hm
  have key : ∀ n, n = lv c0 c1 c2 c3 c4 - pp * q → leV q c0 c1 c2 c3 c4 = elV (n % 2251799813685248) (n / 2251799813685248 % 2251799813685248) (n / 5070602400912917605986812821504 % 2251799813685248) (n / 11417981541647679048466287755595961091061972992 % 2251799813685248) (n / 25711008708143844408671393477458601640355247900524685364822016 % 2251799813685248) := by
    intro n hn
    have hn' : n + 57896044618658097711785492504343953926634992332820282019728792003956564819968 * q = (c0 + q * 19) + 2251799813685248 * c1 + 5070602400912917605986812821504 * c2 + 11417981541647679048466287755595961091061972992 * c3 + 25711008708143844408671393477458601640355247900524685364822016 * c4 := by
      rw [hn]; simp only [lv, pp]; omega
    clear hn
    simp only [leV, cr4, cr3, cr2, cr1]
    obtain ⟨n1, e1⟩ : ∃ t, t = n / 2251799813685248 := ⟨_, rfl⟩
    obtain ⟨n2, e2⟩ : ∃ t, t = n1 / 2251799813685248 := ⟨_, rfl⟩
    obtain ⟨n3, e3⟩ : ∃ t, t = n2 / 2251799813685248 := ⟨_, rfl⟩
    obtain ⟨n4, e4⟩ : ∃ t, t = n3 / 2251799813685248 := ⟨_, rfl⟩
    rw [show n / 5070602400912917605986812821504 = n2 by omega, show n / 11417981541647679048466287755595961091061972992 = n3 by omega, show n / 25711008708143844408671393477458601640355247900524685364822016 = n4 by omega, ← e1]
    obtain ⟨r0, g0⟩ : ∃ t, t = (c0 + q * 19) / 2251799813685248 := ⟨_, rfl⟩
    rw [← g0]
    have s1 : n1 + 25711008708143844408671393477458601640355247900524685364822016 * q = (c1 + r0) + 2251799813685248 * c2 + 5070602400912917605986812821504 * c3 + 11417981541647679048466287755595961091061972992 * c4 := by omega
    have d0 : (c0 + q * 19) % 2251799813685248 = n % 2251799813685248 := by omega
    rw [d0]
    clear d0 g0 hn' e1
    obtain ⟨r1, g1⟩ : ∃ t, t = (c1 + r0) / 2251799813685248 := ⟨_, rfl⟩
    rw [← g1]
    have s2 : n2 + 11417981541647679048466287755595961091061972992 * q = (c2 + r1) + 2251799813685248 * c3 + 5070602400912917605986812821504 * c4 := by omega
    have d1 : (c1 + r0) % 2251799813685248 = n1 % 2251799813685248 := by omega
    rw [d1]
    clear d1 g1 s1 e2
    obtain ⟨r2, g2⟩ : ∃ t, t = (c2 + r1) / 2251799813685248 := ⟨_, rfl⟩
    rw [← g2]
    have s3 : n3 + 5070602400912917605986812821504 * q = (c3 + r2) + 2251799813685248 * c4 := by omega
    have d2 : (c2 + r1) % 2251799813685248 = n2 % 2251799813685248 := by omega
    rw [d2]
    clear d2 g2 s2 e3
    obtain ⟨r3, g3⟩ : ∃ t, t = (c3 + r2) / 2251799813685248 := ⟨_, rfl⟩
    rw [← g3]
    have s4 : n4 + 2251799813685248 * q = c4 + r3 := by omega
    have d3 : (c3 + r2) % 2251799813685248 = n3 % 2251799813685248 := by omega
    rw [d3]
    have d4 : (c4 + r3) % 2251799813685248 = n4 % 2251799813685248 := by omega
    rw [d4]
  exact key _ rfl

theorem least_E {a : El} {m : F} (ha : IsL a m) : Pure 28 #[a.v] (leastE m).v := by
  obtain ⟨b, c, hp1, hp2, hv, h0, h1, h2, h3, h4⟩ := carry2 ha
  intro w
  rw [← leV_eq h0 h1 h2 h3 h4 hv]
  exact least_walk a b c w (Hid_mk hp1) (Hid_mk hp2) h0 h1 h2 h3 h4

end Go.Proofs.YtbonnnakebfniaaDoor
