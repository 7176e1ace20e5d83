/- The base point, its order; sums in four coordinates; what the ladder tells. -/
import Derived.Test.YtbonnnakebfniaaDoorM5
namespace Num

theorem step_rep {Xa Za Xb Zb x1 : F} {p q r : Pt} (ha : Rep Xa Za p) (hb : Rep Xb Zb q) (h : q = p.add r ∨ p = q.add r) (hx : x1 * (1 - r.y) = 1 + r.y) (hx0 : x1 ≠ 0) (hr1 : r.y ≠ 1) :
    Rep (((Xb - Zb) * (Xa + Za) + (Xb + Zb) * (Xa - Za)) * ((Xb - Zb) * (Xa + Za) + (Xb + Zb) * (Xa - Za)))
      (x1 * (((Xb - Zb) * (Xa + Za) - (Xb + Zb) * (Xa - Za)) * ((Xb - Zb) * (Xa + Za) - (Xb + Zb) * (Xa - Za)))) (p.add q) := by
  rcases h with h | h
  · exact rep_add ha hb h hx hx0 hr1
  · have := rep_add hb ha h hx hx0 hr1
    rw [Pt.add_comm q p] at this
    have e1 : (Xa - Za) * (Xb + Zb) + (Xa + Za) * (Xb - Zb) = (Xb - Zb) * (Xa + Za) + (Xb + Zb) * (Xa - Za) := by grobner
    have e2 : ((Xa - Za) * (Xb + Zb) - (Xa + Za) * (Xb - Zb)) * ((Xa - Za) * (Xb + Zb) - (Xa + Za) * (Xb - Zb)) = ((Xb - Zb) * (Xa + Za) - (Xb + Zb) * (Xa - Za)) * ((Xb - Zb) * (Xa + Za) - (Xb + Zb) * (Xa - Za)) := by grobner
    rw [e1, e2] at this
    exact this

/-- The point's u. -/
noncomputable def uOf (p : Pt) : F := (1 + p.y) * inv (1 - p.y)

theorem inv_mul {a b : F} (ha : a ≠ 0) (hb : b ≠ 0) : inv (a * b) = inv a * inv b := by
  refine inv_unique ?_
  have h1 := mul_inv ha
  have h2 := mul_inv hb
  grobner

theorem rep_out {X Z : F} {p : Pt} (h : Rep X Z p) : X * inv Z = uOf p := by
  obtain ⟨l, hl, rfl, rfl⟩ := h
  unfold uOf
  by_cases hy : 1 - p.y = 0
  · rw [hy, show l * (0 : F) = 0 by grobner, inv_zero]; grobner
  · rw [inv_mul hl hy]
    have := mul_inv hl
    generalize inv (1 - p.y) = k at *
    grobner

/-- Four coordinates of a point. -/
def Ext (X Y Z T : F) (p : Pt) : Prop := Z ≠ 0 ∧ X = p.x * Z ∧ Y = p.y * Z ∧ T = p.x * p.y * Z

theorem ext_add {X1 Y1 Z1 T1 X2 Y2 Z2 T2 : F} {p q : Pt} (h1 : Ext X1 Y1 Z1 T1 p) (h2 : Ext X2 Y2 Z2 T2 q) :
    Ext (((Y1 + X1) * (Y2 + X2) - (Y1 - X1) * (Y2 - X2)) * (Z1 * Z2 + Z1 * Z2 - T1 * (dd + dd) * T2))
      ((Z1 * Z2 + Z1 * Z2 + T1 * (dd + dd) * T2) * ((Y1 + X1) * (Y2 + X2) + (Y1 - X1) * (Y2 - X2)))
      ((Z1 * Z2 + Z1 * Z2 - T1 * (dd + dd) * T2) * (Z1 * Z2 + Z1 * Z2 + T1 * (dd + dd) * T2))
      (((Y1 + X1) * (Y2 + X2) - (Y1 - X1) * (Y2 - X2)) * ((Y1 + X1) * (Y2 + X2) + (Y1 - X1) * (Y2 - X2))) (p.add q) := by
  obtain ⟨hz1, rfl, rfl, rfl⟩ := h1
  obtain ⟨hz2, rfl, rfl, rfl⟩ := h2
  have hX := sx_eq p.on q.on
  have hY := sy_eq p.on q.on
  have hp := den_p p.on q.on
  have hm := den_m p.on q.on
  have hx : (p.add q).x = sx p.x p.y q.x q.y := rfl
  have hy : (p.add q).y = sy p.x p.y q.x q.y := rfl
  unfold Ext
  rw [hx, hy]
  generalize sx p.x p.y q.x q.y = X at *
  generalize sy p.x p.y q.x q.y = Y at *
  have e : (p.y * Z1 + p.x * Z1) * (q.y * Z2 + q.x * Z2) - (p.y * Z1 - p.x * Z1) * (q.y * Z2 - q.x * Z2) = 2 * (Z1 * Z2) * (X * (1 + dd * p.x * q.x * p.y * q.y)) := by rw [hX]; clear hX hY hx hy; grobner
  have hh : (p.y * Z1 + p.x * Z1) * (q.y * Z2 + q.x * Z2) + (p.y * Z1 - p.x * Z1) * (q.y * Z2 - q.x * Z2) = 2 * (Z1 * Z2) * (Y * (1 - dd * p.x * q.x * p.y * q.y)) := by rw [hY]; clear hX hY hx hy e; grobner
  have f : Z1 * Z2 + Z1 * Z2 - p.x * p.y * Z1 * (dd + dd) * (q.x * q.y * Z2) = 2 * (Z1 * Z2) * (1 - dd * p.x * q.x * p.y * q.y) := by clear hX hY hx hy e hh; grobner
  have g : Z1 * Z2 + Z1 * Z2 + p.x * p.y * Z1 * (dd + dd) * (q.x * q.y * Z2) = 2 * (Z1 * Z2) * (1 + dd * p.x * q.x * p.y * q.y) := by clear hX hY hx hy e hh f; grobner
  rw [e, hh, f, g]
  have hk : 2 * (Z1 * Z2) ≠ 0 := mul_ne_zero two_ne (mul_ne_zero hz1 hz2)
  clear e hh f g hX hY hx hy
  generalize 1 + dd * p.x * q.x * p.y * q.y = a at *
  generalize 1 - dd * p.x * q.x * p.y * q.y = b at *
  generalize 2 * (Z1 * Z2) = k at *
  exact ⟨mul_ne_zero (mul_ne_zero hk hm) (mul_ne_zero hk hp), by grobner, by grobner, by grobner⟩

theorem ext_zero : Ext 0 1 1 0 Pt.zero := ⟨one_ne, by simp only [Pt.zero]; grobner, by simp only [Pt.zero]; grobner, by simp only [Pt.zero]; grobner⟩
theorem ext_flat (p : Pt) : Ext p.x p.y 1 (p.x * p.y) p := ⟨one_ne, by grobner, by grobner, by grobner⟩

structure E4 where
  x : F
  y : F
  z : F
  t : F

def E4.add (p q : E4) : E4 :=
  ⟨((p.y + p.x) * (q.y + q.x) - (p.y - p.x) * (q.y - q.x)) * (p.z * q.z + p.z * q.z - p.t * (dd + dd) * q.t),
   (p.z * q.z + p.z * q.z + p.t * (dd + dd) * q.t) * ((p.y + p.x) * (q.y + q.x) + (p.y - p.x) * (q.y - q.x)),
   (p.z * q.z + p.z * q.z - p.t * (dd + dd) * q.t) * (p.z * q.z + p.z * q.z + p.t * (dd + dd) * q.t),
   ((p.y + p.x) * (q.y + q.x) - (p.y - p.x) * (q.y - q.x)) * ((p.y + p.x) * (q.y + q.x) + (p.y - p.x) * (q.y - q.x))⟩

def E4.mul (b : E4) : Nat → Nat → E4
  | 0, _ => ⟨0, 1, 1, 0⟩
  | f + 1, n => if n = 0 then ⟨0, 1, 1, 0⟩ else
    if n % 2 = 1 then ((E4.mul b f (n / 2)).add (E4.mul b f (n / 2))).add b else (E4.mul b f (n / 2)).add (E4.mul b f (n / 2))

def E4.of (e : E4) (p : Pt) : Prop := Ext e.x e.y e.z e.t p

theorem E4.add_of {e g : E4} {p q : Pt} (h1 : e.of p) (h2 : g.of q) : (e.add g).of (p.add q) := ext_add h1 h2

theorem E4.mul_of {b : E4} {p : Pt} (h : b.of p) : ∀ (f n : Nat), n < 2 ^ f → (E4.mul b f n).of (Pt.mul n p)
  | 0, n, hn => by
    have : n = 0 := by simpa using hn
    subst this
    exact ext_zero
  | f + 1, n, hn => by
    simp only [E4.mul]
    by_cases h0 : n = 0
    · subst h0; simp only [if_true]; exact ext_zero
    · have ih := E4.mul_of h f (n / 2) (by rw [Nat.pow_succ] at hn; omega)
      have hd := E4.add_of ih ih
      rw [← Pt.mul_dbl] at hd
      rw [if_neg h0]
      by_cases h1 : n % 2 = 1
      · rw [if_pos h1]
        have := E4.add_of hd h
        rw [show n = 2 * (n / 2) + 1 by omega]
        rw [show (2 * (n / 2) + 1) / 2 = n / 2 by omega]
        exact this
      · rw [if_neg h1]
        rw [show Pt.mul n p = Pt.mul (2 * (n / 2)) p by congr 1; omega]
        exact hd

def Bx : F := 15112221349535400772501151409588531511454012693041857206046113283949847762202
def By : F := 46316835694926478169428394003475163141307993866256225615783033603165251855960
def B : Pt := ⟨Bx, By, by unfold On; decide +kernel⟩
abbrev L : Nat := 7237005577332262213973186563042994240857116359379907606001950938285454250989

def B4 : E4 := ⟨Bx, By, 1, Bx * By⟩
theorem B4_of : B4.of B := ext_flat B

theorem LB4 : (E4.mul B4 253 L).x = 0 ∧ (E4.mul B4 253 L).y = (E4.mul B4 253 L).z := by decide +kernel

theorem LB : Pt.mul L B = Pt.zero := by
  obtain ⟨hz, hx, hy, _⟩ := E4.mul_of B4_of 253 L (by decide)
  obtain ⟨h1, h2⟩ := LB4
  rw [h1] at hx
  rw [h2] at hy
  refine Pt.ext ?_ ?_
  · exact (mul_eq_zero hx.symm).resolve_right hz
  · show _ = (1 : F)
    refine cancel hz ?_
    generalize (Pt.mul L B).y = u at *
    grobner

end Num
