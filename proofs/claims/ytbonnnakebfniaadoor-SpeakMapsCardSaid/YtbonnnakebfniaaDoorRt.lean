/- field: Root, in one piece. -/
import Derived.Test.YtbonnnakebfniaaDoorWg
import Derived.Test.YtbonnnakebfniaaDoorM7
namespace Go.Proofs.YtbonnnakebfniaaDoor
open Go Go.RowKit Num Mx

/-- Of a number and what makes 0 of it the one that is even. -/
def evn (m : F) : F := if m.val % 2 == 1 then 0 - m else m
def m1 : F := evn (pw (toF 2) ((Num.P - 1) / 4))
/-- What Root hands back. -/
def rootV (u v : F) : F × Bool :=
  if root0 u v * root0 u v * v = u then (evn (root0 u v), true) else if root0 u v * root0 u v * v = 0 - u then (evn (root0 u v * m1), true) else (0, false)

theorem root_E {u v : El} {fu fv : F} (hu : IsL u fu) (hv : IsL v fv) : ∃ c : El, IsL c (rootV fu fv).1 ∧ Pure 56 #[u.v, v.v] (.tuple #[c.v, .bool (rootV fu fv).2]) := by
  have r0 := fun h => root0_E hu hv h
  have r1 := fun h h' => root1_E hu hv h h'
  have r2 := fun h h' => root2_E hu hv h h'
  have e : fu * (fv * fv * fv) * pw (fu * (fv * fv * fv * (fv * fv * fv) * fv)) ((Num.P - 5) / 8) = root0 fu fv := by unfold root0; rfl
  have e1 : (if (pw (toF 2) ((Num.P - 1) / 4)).val % 2 == 1 then 0 - pw (toF 2) ((Num.P - 1) / 4) else pw (toF 2) ((Num.P - 1) / 4)) = m1 := by unfold m1 evn; rfl
  rw [e] at r0 r2
  rw [e, e1] at r1
  unfold rootV
  generalize root0 fu fv = r at *
  generalize m1 = k at *
  unfold evn
  by_cases h0 : r * r * fv = fu
  · rw [if_pos h0]
    exact r0 h0
  · rw [if_neg h0]
    by_cases h1 : r * r * fv = 0 - fu
    · rw [if_pos h1]
      exact r1 h0 h1
    · rw [if_neg h1]
      exact r2 h0 h1

theorem odd_E' {a : El} {m : F} (ha : IsL a m) : Pure 44 #[a.v] (.bool (oddF m)) := odd_E ha

end Go.Proofs.YtbonnnakebfniaaDoor
