/- field.least: the number less than p. -/
import Derived.Test.YtbonnnakebfniaaDoorFq
namespace Go.Proofs.YtbonnnakebfniaaDoor
open Go Go.RowKit Num

theorem carry2 {a : El} {m : F} (ha : IsL a m) : ∃ b c : El, Pure 23 #[a.v] b.v ∧ Pure 23 #[b.v] c.v ∧ toF c.n = m ∧
    (0 ≤ c.l0 ∧ c.l0 < 2251799813685248) ∧ (0 ≤ c.l1 ∧ c.l1 < 2251799813685248) ∧ (0 ≤ c.l2 ∧ c.l2 < 2251799813685248) ∧ (0 ≤ c.l3 ∧ c.l3 < 2251799813685248) ∧ (0 ≤ c.l4 ∧ c.l4 < 2251799813685248) := by
  obtain ⟨h0, h1, h2, h3, h4, hv⟩ := ha
  have e1 := crE_n a.l0 a.l1 a.l2 a.l3 a.l4
  refine ⟨crE a.l0 a.l1 a.l2 a.l3 a.l4, ?_⟩
  have hp1 : Pure 23 #[a.v] (crE a.l0 a.l1 a.l2 a.l3 a.l4).v := fun w => carry_any _ _ _ _ _ w (by omega) (by omega) (by omega) (by omega) (by omega)
  have k0 : 0 ≤ (crE a.l0 a.l1 a.l2 a.l3 a.l4).l0 ∧ (crE a.l0 a.l1 a.l2 a.l3 a.l4).l0 < 2251799813685248 + 19 := by simp only [cr4, cr3, cr2, cr1]; omega
  have k1 : 0 ≤ (crE a.l0 a.l1 a.l2 a.l3 a.l4).l1 ∧ (crE a.l0 a.l1 a.l2 a.l3 a.l4).l1 < 2251799813685248 := by simp only [cr1]; omega
  have k2 : 0 ≤ (crE a.l0 a.l1 a.l2 a.l3 a.l4).l2 ∧ (crE a.l0 a.l1 a.l2 a.l3 a.l4).l2 < 2251799813685248 := by simp only [cr2, cr1]; omega
  have k3 : 0 ≤ (crE a.l0 a.l1 a.l2 a.l3 a.l4).l3 ∧ (crE a.l0 a.l1 a.l2 a.l3 a.l4).l3 < 2251799813685248 := by simp only [cr3, cr2, cr1]; omega
  have k4 : 0 ≤ (crE a.l0 a.l1 a.l2 a.l3 a.l4).l4 ∧ (crE a.l0 a.l1 a.l2 a.l3 a.l4).l4 < 2251799813685248 := by simp only [cr4, cr3, cr2, cr1]; omega
  have hv1 : toF (crE a.l0 a.l1 a.l2 a.l3 a.l4).n = m := by rw [← hv]; exact (toF_of_sub _ e1).symm
  revert hp1 k0 k1 k2 k3 k4 hv1
  generalize crE a.l0 a.l1 a.l2 a.l3 a.l4 = b
  intro hp1 k0 k1 k2 k3 k4 hv1
  refine ⟨crE b.l0 b.l1 b.l2 b.l3 b.l4, hp1, fun w => carry_any _ _ _ _ _ w (by omega) (by omega) (by omega) (by omega) (by omega), ?_, ?_, ?_, ?_, ?_, ?_⟩
  · rw [← hv1]; exact (toF_of_sub _ (crE_n b.l0 b.l1 b.l2 b.l3 b.l4)).symm
  · simp only [cr4, cr3, cr2, cr1]; omega
  · simp only [cr1]; omega
  · simp only [cr2, cr1]; omega
  · simp only [cr3, cr2, cr1]; omega
  · simp only [cr4, cr3, cr2, cr1]; omega

end Go.Proofs.YtbonnnakebfniaaDoor
