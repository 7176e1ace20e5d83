/- edsign: a number times a point, as elements. -/
import Derived.Test.YtbonnnakebfniaaDoorWm
import Derived.Test.YtbonnnakebfniaaDoorSd
namespace Go.Proofs.YtbonnnakebfniaaDoor
open Go Go.RowKit Num Mx

structure P4 where
  x : El
  y : El
  z : El
  t : El
abbrev P4.v (p : P4) : Value := ptV p.x p.y p.z p.t
structure IsP (p : P4) (f : E4) : Prop where
  x : IsL p.x f.x
  y : IsL p.y f.y
  z : IsL p.z f.z
  t : IsL p.t f.t
/-- The sum, with twice d as it is held. -/
def addF (fe : F) (p q : E4) : E4 :=
  ⟨((p.y + p.x) * (q.y + q.x) - (p.y - p.x) * (q.y - q.x)) * (p.z * q.z + p.z * q.z - p.t * fe * q.t),
   (p.z * q.z + p.z * q.z + p.t * fe * q.t) * ((p.y + p.x) * (q.y + q.x) + (p.y - p.x) * (q.y - q.x)),
   (p.z * q.z + p.z * q.z - p.t * fe * q.t) * (p.z * q.z + p.z * q.z + p.t * fe * q.t),
   ((p.y + p.x) * (q.y + q.x) - (p.y - p.x) * (q.y - q.x)) * ((p.y + p.x) * (q.y + q.x) + (p.y - p.x) * (q.y - q.x))⟩
structure Cv where
  d : El
  e : El
  x : El
  y : El
  z : El
  t : El
abbrev Cv.c (c : Cv) : Array Value := cvA c.d c.e c.x c.y c.z c.t
def AddR (c : Cv) (p q r : P4) : Prop := ∀ (w : World) (bc : Nat), w.heap[bc]? = some (.cells c.c 55 (0, 0)) → Calls Tryd.prog 43 #[.pointer (some ⟨bc, 0, none⟩), p.v, q.v] w fun e w' => e = .returned r.v ∧ Below w.heap.size w w'

theorem add_P {c : Cv} {fe : F} (he : IsL c.e fe) {p q : P4} {fp fq : E4} (hp : IsP p fp) (hq : IsP q fq) : ∃ r : P4, IsP r (addF fe fp fq) ∧ AddR c p q r := by
  obtain ⟨rx, ry, rz, rt, h1, h2, h3, h4, h⟩ := add4_E (d := c.d) (e := c.e) (x0 := c.x) (y0 := c.y) (z0 := c.z) (t0 := c.t) he hp.x hp.y hp.z hp.t hq.x hq.y hq.z hq.t
  exact ⟨⟨rx, ry, rz, rt⟩, ⟨h1, h2, h3, h4⟩, h⟩

def mulF (fe : F) (bit : Nat → Bool) (b : E4) : Nat → E4
  | 0 => ⟨0, toF 1, toF 1, 0⟩
  | k + 1 => if bit (255 - k) then addF fe (addF fe (mulF fe bit b k) (mulF fe bit b k)) b else addF fe (mulF fe bit b k) (mulF fe bit b k)

structure MulR (c : Cv) (p : P4) (is : Bool) (a d g : P4) : Prop where
  dbl : AddR c a a d
  yes : is = true → AddR c d p g
  no : is = false → d = g

theorem mul_P (bit : Nat → Bool) {c : Cv} {fe : F} (he : IsL c.e fe) {p : P4} {fp : E4} (hp : IsP p fp) : ∃ f d : Nat → P4, f 0 = ⟨⟨0, 0, 0, 0, 0⟩, ⟨1, 0, 0, 0, 0⟩, ⟨1, 0, 0, 0, 0⟩, ⟨0, 0, 0, 0, 0⟩⟩ ∧ (∀ k, IsP (f k) (mulF fe bit fp k)) ∧ ∀ k, MulR c p (bit (255 - k)) (f k) (d k) (f (k + 1)) := by
  obtain ⟨f, h0, hi, hr⟩ := chain (fun k a => IsP a (mulF fe bit fp k)) (fun k a g => ∃ d, MulR c p (bit (255 - k)) a d g) ⟨⟨0, 0, 0, 0, 0⟩, ⟨1, 0, 0, 0, 0⟩, ⟨1, 0, 0, 0, 0⟩, ⟨0, 0, 0, 0, 0⟩⟩ ⟨zero_is, (small_E 1 (by decide)).1, (small_E 1 (by decide)).1, zero_is⟩ (fun k a ha => by
    obtain ⟨d, hd, hda⟩ := add_P he ha ha
    by_cases hb : bit (255 - k) = true
    · obtain ⟨g, hg, hga⟩ := add_P he hd hp
      refine ⟨g, ?_, d, hda, fun _ => hga, fun h => by rw [hb] at h; cases h⟩
      show IsP g (if bit (255 - k) then _ else _)
      rw [if_pos hb]; exact hg
    · refine ⟨d, ?_, d, hda, fun h => absurd h hb, fun _ => rfl⟩
      show IsP d (if bit (255 - k) then _ else _)
      rw [if_neg hb]; exact hd)
  exact ⟨f, fun k => Classical.choose (hr k), h0, hi, fun k => Classical.choose_spec (hr k)⟩

theorem sub255 {k : Nat} (hk : k < 256) : intV .sub .i64 ((255 - k : Nat) : Int) 1 = .int .i64 (255 - ((k + 1 : Nat) : Int)) := by
  have e : ((255 - k : Nat) : Int) - 1 = 255 - ((k + 1 : Nat) : Int) := by omega
  refine congrArg (Value.int .i64) ?_
  rw [e]
  generalize ((k + 1 : Nat) : Int) = q at *
  have h1 : -1 ≤ 255 - q := by omega
  have h2 : 255 - q ≤ 255 := by omega
  generalize 255 - q = r at *
  show IntKind.i64.wrap r = r
  simp [IntKind.wrap, IntKind.bits, IntKind.signed]
  omega
theorem upd_bits (β : Nat → Bool) (k : Nat) : ∀ i, upd (fun j => decide (j < k) && β j) k (β k) i = (decide (i < k + 1) && β i) := by
  intro i
  unfold upd
  by_cases h : i = k
  · subst h; simp
  · rw [if_neg h]
    have e : decide (i < k + 1) = decide (i < k) := decide_eq_decide.2 ⟨fun h1 => by omega, fun h1 => by omega⟩
    rw [e]
end Go.Proofs.YtbonnnakebfniaaDoor
