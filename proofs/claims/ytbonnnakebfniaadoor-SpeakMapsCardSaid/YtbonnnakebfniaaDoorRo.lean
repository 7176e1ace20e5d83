/- The plain mathematics behind SpeakMaps, in the words of the walks. -/
import Derived.Test.YtbonnnakebfniaaDoorHh
import Derived.Test.YtbonnnakebfniaaDoorCards
import Derived.Test.YtbonnnakebfniaaDoorTie
import Derived.WalkKit
import Derived.ProofKit
import Derived.OpenShut
import Derived.Deep.DeepHandedRow
import Derived.Lib.LaidTab
namespace Go.Proofs.YtbonnnakebfniaaDoor
open Go Go.RowKit Num Mx

theorem two_pw : pw (2 : F) ((Num.P - 1) / 2) = 0 - 1 := by
  apply Fin.ext
  rw [pw_val]
  have h : (Num.P - 1) / 2 < 2 ^ 256 := by decide
  rw [← pm_eq (2 : F).val Num.P 256 _ h]
  decide +kernel

theorem evn_sq (m : F) : evn m * evn m = m * m := by
  unfold evn
  by_cases h : (m.val % 2 == 1) = true
  · rw [if_pos h]; grobner
  · rw [if_neg h]
theorem evn_even (m : F) : oddF (evn m) = false := by
  unfold evn oddF
  by_cases h : (m.val % 2 == 1) = true
  · rw [if_pos h]
    have h1 : m.val % 2 = 1 := by simpa using h
    have hm : m ≠ 0 := by
      rintro rfl
      exact absurd h1 (by decide)
    rw [parity hm, h1]
    rfl
  · rw [if_neg h]
    simpa using h
theorem m1_sq : m1 * m1 = 0 - 1 := by
  unfold m1
  rw [evn_sq, ← pw_add, show (Num.P - 1) / 4 + (Num.P - 1) / 4 = (Num.P - 1) / 2 by decide, show toF 2 = 2 by decide, two_pw]

theorem rootV_ok {s v : F} (hv : v ≠ 0) : (rootV (s * s * v) v).2 = true ∧ (rootV (s * s * v) v).1 * (rootV (s * s * v) v).1 = s * s ∧ oddF (rootV (s * s * v) v).1 = false := by
  have h := root0_sq (s := s) hv
  have hm := m1_sq
  unfold rootV
  generalize root0 (s * s * v) v = r at *
  generalize m1 = k at *
  by_cases h1 : r * r * v = s * s * v
  · rw [if_pos h1]
    refine ⟨rfl, ?_, evn_even r⟩
    rw [evn_sq]
    refine cancel hv ?_
    grobner
  · have h2 := h.resolve_left h1
    rw [if_neg h1, if_pos h2]
    refine ⟨rfl, ?_, evn_even _⟩
    rw [evn_sq]
    refine cancel hv ?_
    clear h h1
    grobner

theorem even_root {a b : F} (h : a * a = b * b) (ha : oddF a = false) (hb : oddF b = false) : a = b := by
  rcases sq_eq h with h1 | h1
  · exact h1
  · by_cases hz : b = 0
    · subst hz; rw [h1]; grobner
    · have := parity hz
      rw [← h1] at this
      unfold oddF at ha hb
      have h2 : a.val % 2 ≠ 1 := by simpa using ha
      have h3 : b.val % 2 ≠ 1 := by simpa using hb
      omega

theorem dF : (0 - toF 121665) * inv (toF 121666) = dd := by
  have h1 : toF 121665 = 121665 := by decide
  have h2 : toF 121666 = 121666 := by decide
  have h3 := mul_inv n121666_ne
  have h4 := dd_eq
  rw [h1, h2]
  generalize inv 121666 = k at *
  grobner
theorem byF : toF 4 * inv (toF 5) = By := by
  have h1 : toF 4 = 4 := by decide
  have h2 : toF 5 = 5 := by decide
  have h5 : (5 : F) ≠ 0 := by decide
  have h3 := mul_inv h5
  have h4 : By * 5 = 4 := by decide +kernel
  rw [h1, h2]
  generalize inv 5 = k at *
  generalize By = y at *
  grobner

/-- y^2 - 1 as a square times d y^2 + 1. -/
theorem on_root {x y : F} (h : On x y) : y * y - toF 1 = x * x * (dd * (y * y) + toF 1) := by
  unfold On at h
  rw [toF_one]
  grobner
theorem den_y' {x y : F} (h : On x y) : dd * (y * y) + toF 1 ≠ 0 := by
  have := den_y h
  rw [toF_one]
  intro h2
  apply this
  grobner

theorem bx_root : (rootV (By * By - toF 1) (dd * (By * By) + toF 1)).1 = Bx := by
  have hB := B.on
  have h := rootV_ok (s := Bx) (v := dd * (By * By) + toF 1) (den_y' hB)
  have e : By * By - toF 1 = Bx * Bx * (dd * (By * By) + toF 1) := on_root hB
  rw [← e] at h
  exact even_root h.2.1 h.2.2 (by decide +kernel)

/-- The curve that begin makes. -/
theorem begin_C : ∃ c : Cv, BeginR c ∧ IsL c.d dd ∧ IsL c.e (dd + dd) ∧ IsP c.b B4 := by
  obtain ⟨d, e, x, y, t, hd, he, hx, hy, ht, hc⟩ := begin_E
  rw [dF, byF, bx_root] at hx ht
  rw [byF] at hy
  rw [dF] at hd he
  exact ⟨⟨d, e, x, y, ⟨1, 0, 0, 0, 0⟩, t⟩, hc, hd, he, ⟨hx, hy, by have := (small_E 1 (by decide)).1; rw [toF_one] at this; exact this, ht⟩⟩

theorem shr_bit (N j : Nat) : N >>> j = 2 * (N >>> (j + 1)) + (N.testBit j).toNat := by
  have h : (N >>> j).testBit 0 = N.testBit j := by rw [Nat.testBit_shiftRight, Nat.add_zero]
  rw [Nat.testBit_zero] at h
  have h1 : N >>> (j + 1) = (N >>> j) / 2 := by rw [Nat.shiftRight_succ]
  rw [h1, ← h]
  have := Nat.mod_two_eq_zero_or_one (N >>> j)
  rcases this with h2 | h2 <;> simp [h2] <;> omega

theorem mulF_of {b : E4} {p : Pt} (hb : b.of p) (N : Nat) (hN : N < 2 ^ 256) : ∀ k, k ≤ 256 → (mulF (dd + dd) N.testBit b k).of (Pt.mul (N >>> (256 - k)) p)
  | 0, _ => by
    have h0 : N >>> (256 - 0) = 0 := by rw [Nat.shiftRight_eq_div_pow]; exact Nat.div_eq_of_lt hN
    rw [h0]
    show E4.of ⟨0, toF 1, toF 1, 0⟩ Pt.zero
    rw [toF_one]
    exact ext_zero
  | k + 1, hk => by
    have ih := mulF_of hb N hN k (by omega)
    have hs := shr_bit N (255 - k)
    rw [show 255 - k + 1 = 256 - k by omega] at hs
    rw [show 256 - (k + 1) = 255 - k by omega, hs]
    have hd := E4.add_of ih ih
    rw [← Pt.mul_dbl] at hd
    simp only [mulF]
    cases hb1 : N.testBit (255 - k)
    · rw [if_neg (by decide)]
      exact hd
    · rw [if_pos rfl]
      exact E4.add_of hd hb

theorem toF_self (m : F) : toF (m.val : Int) = m := by
  apply Fin.ext
  have h := toF_val (m.val : Int)
  have hl := m.isLt
  have h2 : ((m.val : Nat) : Int) % pp = ((m.val : Nat) : Int) := Int.emod_eq_of_lt (by omega) (by
    show ((m.val : Nat) : Int) < 57896044618658097711785492504343953926634992332820282019728792003956564819949
    have : m.val < 57896044618658097711785492504343953926634992332820282019728792003956564819949 := hl
    omega)
  rw [h2] at h
  exact_mod_cast h

theorem pkN_mod (m : F) (b : Bool) : pkN m.val b % 2 ^ 255 = m.val := by
  have h := val_lt255 m
  unfold pkN
  cases b
  · exact Nat.mod_eq_of_lt h
  · show (m.val + 2 ^ 255) % 2 ^ 255 = _
    rw [Nat.add_mod_right]; exact Nat.mod_eq_of_lt h
theorem pkN_bit (m : F) (b : Bool) : (pkN m.val b).testBit 255 = b := by
  have h := val_lt255 m
  unfold pkN
  cases b
  · exact Nat.testBit_lt_two_pow h
  · show (m.val + 2 ^ 255).testBit 255 = true
    rw [top_bit h]
    simp

/-- The bytes of a point in four coordinates. -/
theorem enc_of {g : E4} {q : Pt} (h : g.of q) : encN g = pkN q.y.val (oddF q.x) := by
  obtain ⟨hz, hx, hy, _⟩ := h
  have hi := mul_inv hz
  have h1 : g.y * inv g.z = q.y := by
    rw [hy]
    generalize inv g.z = k at *
    grobner
  have h2 : g.x * inv g.z = q.x := by
    rw [hx]
    generalize inv g.z = k at *
    grobner
  unfold encN
  rw [h1, h2]

theorem enc_flat {q : Pt} {t : F} : encN ⟨q.x, q.y, toF 1, t⟩ = pkN q.y.val (oddF q.x) := by
  have hi := mul_inv one_ne
  unfold encN
  simp only
  rw [toF_one]
  have h1 : q.y * inv 1 = q.y := by
    generalize inv 1 = k at *
    grobner
  have h2 : q.x * inv 1 = q.x := by
    generalize inv 1 = k at *
    grobner
  rw [h1, h2]

/-- A point's bytes are read, and found to be a point's. -/
theorem point_ok {c : Cv} (hbeg : BeginR c) (hd : IsL c.d dd) (q : Pt) : Pure 14 #[.agg (arr .u8 32 (dgF 8 (pkN q.y.val (oddF q.x))))] (.bool true) := by
  have hr := rootV_ok (s := q.x) (den_y' q.on)
  rw [← on_root q.on] at hr
  have hy : toF ((pkN q.y.val (oddF q.x) % 2 ^ 255 : Nat) : Int) = q.y := by rw [pkN_mod]; exact toF_self q.y
  obtain ⟨R, hR⟩ : ∃ R, rootV (q.y * q.y - toF 1) (dd * (q.y * q.y) + toF 1) = R := ⟨_, rfl⟩
  rw [hR] at hr
  obtain ⟨r1, r2, r3⟩ := hr
  have hsg := pkN_bit q.y (oddF q.x)
  cases ho : oddF q.x
  · have e : R.1 = q.x := even_root r2 r3 ho
    rw [ho] at hsg hy
    obtain ⟨p, hp⟩ := readF_E hd (pkN q.y.val false) (R := R) (by rw [hy]; exact hR) r1 hsg (by rw [hy, e, enc_flat, ho])
    exact point_E hbeg hp
  · have e : 0 - R.1 = q.x := by
      rcases sq_eq r2 with h1 | h1
      · rw [h1, ho] at r3; cases r3
      · rw [h1]; grobner
    rw [ho] at hsg hy
    obtain ⟨p, hp⟩ := readT_E hd (pkN q.y.val true) (R := R) (by rw [hy]; exact hR) r1 hsg (by rw [hy, e, enc_flat, ho])
    exact point_E hbeg hp

/-! ### The ladder -/
theorem swap_swap (f : F4) (a b : Bool) : f.swap (b != a) = (f.swap a).swap b := by cases a <;> cases b <;> rfl

theorem lad_rep (N : Nat) (hN : N < 2 ^ 255) : ∀ k, k ≤ 255 → Rep ((lad N.testBit 9 k).swap (wasB N.testBit k)).ax ((lad N.testBit 9 k).swap (wasB N.testBit k)).az (Pt.mul (N >>> (255 - k)) B) ∧
    Rep ((lad N.testBit 9 k).swap (wasB N.testBit k)).bx ((lad N.testBit 9 k).swap (wasB N.testBit k)).bz ((Pt.mul (N >>> (255 - k)) B).add B)
  | 0, _ => by
    have h0 : N >>> (255 - 0) = 0 := by rw [Nat.shiftRight_eq_div_pow]; exact Nat.div_eq_of_lt hN
    rw [h0]
    refine ⟨?_, ?_⟩
    · show Rep (toF 1) 0 Pt.zero
      rw [toF_one]; exact rep_zero
    · show Rep 9 (toF 1) (Pt.zero.add B)
      rw [toF_one, Pt.zero_add]
      refine rep_of ?_ (.inr one_ne)
      show 9 * (1 - By) = 1 * (1 + By)
      decide +kernel
  | k + 1, hk => by
    obtain ⟨h1, h2⟩ := lad_rep N hN k (by omega)
    have hs := shr_bit N (254 - k)
    rw [show 254 - k + 1 = 255 - k by omega] at hs
    rw [show 255 - (k + 1) = 254 - k by omega, hs]
    generalize N >>> (255 - k) = n at *
    have e : lad N.testBit 9 (k + 1) = (((lad N.testBit 9 k).swap (wasB N.testBit k)).swap (N.testBit (254 - k))).step 9 := by
      rw [← swap_swap]; rfl
    have ew : wasB N.testBit (k + 1) = N.testBit (254 - k) := rfl
    rw [e, ew]
    generalize (lad N.testBit 9 k).swap (wasB N.testBit k) = L at *
    have hx : (9 : F) * (1 - B.y) = 1 + B.y := by show 9 * (1 - By) = 1 + By; decide +kernel
    have hx0 : (9 : F) ≠ 0 := by decide
    have hr1 : B.y ≠ 1 := by show By ≠ 1; decide +kernel
    have t1 : toF 121665 = 121665 := by decide
    cases N.testBit (254 - k)
    · have hd := rep_dbl h1
      have ha := step_rep h1 h2 (.inl rfl) hx hx0 hr1
      rw [← Pt.mul_dbl] at hd
      have hq : (Pt.mul n B).add ((Pt.mul n B).add B) = (Pt.mul (2 * n) B).add B := by rw [← Pt.add_assoc, ← Pt.mul_dbl]
      rw [hq] at ha
      refine ⟨?_, ?_⟩
      · show Rep (F4.step 9 L).ax (F4.step 9 L).az _
        simp only [F4.step, t1]
        exact hd
      · exact ha
    · have hd := rep_dbl h2
      have ha := step_rep h2 h1 (.inr rfl) hx hx0 hr1
      have hq : ((Pt.mul n B).add B).add (Pt.mul n B) = Pt.mul (2 * n + 1) B := by
        show _ = (Pt.mul (2 * n) B).add B
        rw [Pt.add_comm, ← Pt.add_assoc, ← Pt.mul_dbl]
      have hq2 : ((Pt.mul n B).add B).add ((Pt.mul n B).add B) = (Pt.mul (2 * n + 1) B).add B := by
        rw [← hq]
        exact (Pt.add_assoc _ _ _).symm
      rw [hq] at ha
      rw [hq2] at hd
      refine ⟨ha, ?_⟩
      show Rep (F4.step 9 ⟨L.bx, L.bz, L.ax, L.az⟩).ax (F4.step 9 ⟨L.bx, L.bz, L.ax, L.az⟩).az _
      simp only [F4.step, t1]
      exact hd

theorem multV_9 (x : Nat) : multV x 9 = uOf (Pt.mul (clampN x) B) := by
  have h := (lad_rep (clampN x) (clamp_lt x) 255 (Nat.le_refl _)).1
  have h9 : toF ((9 % 2 ^ 255 : Nat) : Int) = 9 := by decide
  unfold multV
  rw [h9]
  have := rep_out h
  rw [this, Nat.sub_self, Nat.shiftRight_zero]

theorem clamp_form (x : Nat) : ∃ m, clampN x = 8 * m ∧ 2 ^ 251 ≤ m ∧ m < 2 ^ 252 := by
  have h1 := clamp_lt x
  have h2 : (clampN x).testBit 254 = true := by rw [clamp_bit]; rfl
  have h3 := Nat.ge_two_pow_of_testBit h2
  have h4 : clampN x % 2 ^ 3 = 0 := by
    refine Nat.eq_of_testBit_eq fun j => ?_
    rw [Nat.testBit_mod_two_pow, clamp_bit, Nat.zero_testBit]
    by_cases hj : j < 3
    · have e1 : decide (j = 254) = false := by simp; omega
      have e2 : decide (3 ≤ j) = false := by simp; omega
      simp [clampB, e1, e2]
    · simp [hj]
  refine ⟨clampN x / 8, ?_, ?_, ?_⟩ <;> omega

theorem clamp_ne (x : Nat) : uOf (Pt.mul (clampN x) B) ≠ 0 := by
  obtain ⟨m, h, h1, h2⟩ := clamp_form x
  rw [h]
  exact clamp_u h1 h2

/-- SpeakMaps hands back true, whatever the seed. -/
theorem maps_true (g0 g1 f : Nat → Int) (w0 : World) (hg0 : w0.heap[0]? = some (.cells (arr .u64 8 g0) 67 (0, 0))) (hg1 : w0.heap[1]? = some (.cells (arr .u64 80 g1) 101 (0, 0))) :
    Calls Tryd.prog 3 #[.agg (arr .u8 32 f)] w0 fun e w' => e = .returned (.bool true) ∧ Below w0.heap.size w0 w' := by
  obtain ⟨x, _, hx⟩ := num_of (f := sumOf g0 g1 f) (fun i => sum_bd _ _ _ i)
  obtain ⟨c, hbeg, hd, he, hb⟩ := begin_C
  have hq := mulF_of B4_of (clampN x) (Nat.lt_of_lt_of_le (clamp_lt x) (Nat.pow_le_pow_right (by decide) (by decide))) 256 (Nat.le_refl _)
  rw [Nat.sub_self, Nat.shiftRight_zero] at hq
  have henc := enc_of hq
  have hpt := point_ok hbeg hd (Pt.mul (clampN x) B)
  have hy : toF ((pkN (Pt.mul (clampN x) B).y.val (oddF (Pt.mul (clampN x) B).x) % 2 ^ 255 : Nat) : Int) = (Pt.mul (clampN x) B).y := by rw [pkN_mod]; exact toF_self _
  refine maps_E g0 g1 f hx hbeg he hb henc hpt (U := uOf (Pt.mul (clampN x) B)) (V := uOf (Pt.mul (clampN x) B)) ?_ (multV_9 x) rfl (clamp_ne x) w0 hg0 hg1
  rw [hy, toF_one]
  rfl
end Go.Proofs.YtbonnnakebfniaaDoor

/- THE ROW AND THE CARD OF SpeakMaps: from the law's walk to the given statement. -/
namespace Go.Proofs.YtbonnnakebfniaaDoor.speakMaps
open Go Mx Go.ChangeShapes Go.WideShapes Go.ChangeAt Go.RowKit

theorem own : ownKnob Tryd.prog.godebug = none := by kernel_rfl

section
variable {H : Type} {enc : TypeId × Value → H} {P : Program} {w : World} {base : Nat} {sp : Nat → Bool} {held : Bool} {fuel : Nat} {t e : TypeId} {n : Nat} {k : IntKind}

theorem mapM_some {α β : Type} {g : α → Option β} {h : α → β} : ∀ {l : List α}, (∀ a ∈ l, g a = some (h a)) → l.mapM g = some (l.map h)
  | [], _ => rfl
  | x :: l, hl => by
    rw [List.mapM_cons, hl x (by simp), mapM_some fun a ha => hl a (by simp [ha])]
    rfl

/-- The number that a cell holds. -/
def numAt (cs : List Value) (i : Nat) : Int := match cs[i]? with | some (Value.int _ z) => z | _ => 0
theorem numAt_of {cs : List Value} {i : Nat} {z : Int} (h : cs[i]? = some (Value.int k z)) : numAt cs i = z := by unfold numAt; rw [h]

/-- An array of integers, read: its cells, that they fit, what it reads as. -/
theorem ints_of {cs : List Value} {x : DataW H × List MemPlace} (ht : P.underlying t = some (.array n e)) (he : P.underlying e = some (.int k)) (hce : P.cellsOf e = 1)
    (h : DataW.trod enc P w base sp held fuel t cs = some x) (hcs : cs.length = n) :
    ∃ f : Nat → Int, cs = ((List.range n).map fun i => Value.int k (f i)) ∧ (∀ i, i < n → (Lit.int k (f i)).wf = true) ∧ x = (.agg ((List.range n).map fun i => .lit (.int k (f i))), []) := by
  obtain ⟨xs, m, _, rfl, hl, hxn, hg⟩ := DataW.trod_array ht h
  have key : ∀ i, i < n → ∃ z : Int, cs[i]? = some (.int k z) ∧ xs[i]? = some (.lit (.int k z), []) ∧ (Lit.int k z).wf = true := by
    intro i hi
    have h1 := hg i hi
    have hxi : i < xs.length := by omega
    rw [List.getElem?_eq_getElem hxi, hce, Nat.mul_one] at h1
    obtain ⟨z, h2, h3, h4⟩ := DataW.trod_int he h1
    refine ⟨z, ?_, by rw [List.getElem?_eq_getElem hxi, h3], h4⟩
    have := congrArg (·[0]?) h2
    simpa [List.getElem?_take, List.getElem?_drop] using this
  refine ⟨numAt cs, ?_, ?_, ?_⟩
  · refine List.ext_getElem? fun i => ?_
    by_cases hi : i < n
    · obtain ⟨z, h1, _, _⟩ := key i hi
      simp [hi, h1, numAt_of h1]
    · rw [List.getElem?_eq_none (by omega), List.getElem?_eq_none (by simp; omega)]
  · intro i hi
    obtain ⟨z, h1, _, h3⟩ := key i hi
    rw [numAt_of h1]; exact h3
  · have hxs : xs = (List.range n).map fun i => ((.lit (.int k (numAt cs i)) : DataW H), ([] : List MemPlace)) := by
      refine List.ext_getElem? fun i => ?_
      by_cases hi : i < n
      · obtain ⟨z, h1, h2, _⟩ := key i hi
        simp [hi, h2, numAt_of h1]
      · rw [List.getElem?_eq_none (by omega), List.getElem?_eq_none (by simp; omega)]
    rw [hxs]
    simp [List.map_map, Function.comp_def]

/-- Such an array reads so in every world. -/
theorem ints_mk {f : Nat → Int} (ht : P.underlying t = some (.array n e)) (he : P.underlying e = some (.int k)) (hce : P.cellsOf e = 1) (hct : P.cellsOf t = n)
    (hf : ∀ i, i < n → (Lit.int k (f i)).wf = true) :
    DataW.trod enc P w base sp held 2 t ((List.range n).map fun i => Value.int k (f i)) = some (.agg ((List.range n).map fun i => .lit (.int k (f i))), []) := by
  have hone : ∀ i ∈ List.range n, (fun i => DataW.trod enc P w base sp held 1 e ((((List.range n).map fun i => Value.int k (f i)).drop i).take 1)) i = some ((fun i => ((.lit (.int k (f i)) : DataW H), ([] : List MemPlace))) i) := by
    intro i hi
    have hi' : i < n := by simpa using hi
    have hd : ((((List.range n).map fun i => Value.int k (f i)).drop i).take 1) = [Value.int k (f i)] := by
      rw [List.drop_eq_getElem_cons (by simpa using hi')]
      simp
    simp only [hd]
    simp [DataW.trod, he, hf i hi']
  have hm := mapM_some hone
  generalize hcs : ((List.range n).map fun i => Value.int k (f i)) = cs at hm ⊢
  have hl : cs.length = n := by rw [← hcs]; simp
  show DataW.trod enc P w base sp held (1 + 1) t cs = _
  unfold DataW.trod
  rw [ht]
  simp only [hce, hct, hl, Nat.mul_one]
  rw [hm]
  simp [List.map_map, Function.comp_def]
end

theorem kept {W w' : World} (h : Below W.heap.size W w') (may : MemPlace → Prop) : W.keptBut w' may := by
  refine ⟨h.os, h.output, fun i hi => ?_⟩
  have hr := (World.keptBut_refl W may).2.2 i hi
  rw [h.block i hi]
  exact hr

theorem gWords : Tryd.prog.globalNamed "speakeasy/sha2.words" = some 1 := by kernel_rfl
theorem gFirst : Tryd.prog.globalNamed "speakeasy/sha2.first" = some 0 := by kernel_rfl
theorem tWords : (Tryd.prog.globals[1]?).map (·.type) = some 101 := by kernel_rfl
theorem tFirst : (Tryd.prog.globals[0]?).map (·.type) = some 67 := by kernel_rfl
theorem uWords : Tryd.prog.underlying 101 = some (.array 80 27) := by kernel_rfl
theorem uFirst : Tryd.prog.underlying 67 = some (.array 8 27) := by kernel_rfl
theorem uSeed : Tryd.prog.underlying 22 = some (.array 32 5) := by kernel_rfl
theorem uU64 : Tryd.prog.underlying 27 = some (.int .u64) := by kernel_rfl
theorem uU8 : Tryd.prog.underlying 5 = some (.int .u8) := by kernel_rfl
theorem uBool : Tryd.prog.underlying 4 = some .bool := by kernel_rfl
theorem cU64 : Tryd.prog.cellsOf 27 = 1 := by kernel_rfl
theorem cU8 : Tryd.prog.cellsOf 5 = 1 := by kernel_rfl
theorem cWords : Tryd.prog.cellsOf 101 = 80 := by kernel_rfl
theorem cFirst : Tryd.prog.cellsOf 67 = 8 := by kernel_rfl
theorem cSeed : Tryd.prog.cellsOf 22 = 32 := by kernel_rfl
theorem rowWords : ∃ z, (((begin Tryd.prog (fun _ _ => 0) default).world.heap[1]?).bind Obj.row?) = some (z, 101) := by
  have h : ((((begin Tryd.prog (fun _ _ => 0) default).world.heap[1]?).bind Obj.row?).map (·.2)) = some 101 := by kernel_rfl
  obtain ⟨⟨z, t⟩, h1, h2⟩ := Option.map_eq_some_iff.1 h
  exact ⟨z, by rw [h1]; exact congrArg (fun x => some (z, x)) h2⟩
theorem rowFirst : ∃ z, (((begin Tryd.prog (fun _ _ => 0) default).world.heap[0]?).bind Obj.row?) = some (z, 67) := by
  have h : ((((begin Tryd.prog (fun _ _ => 0) default).world.heap[0]?).bind Obj.row?).map (·.2)) = some 67 := by kernel_rfl
  obtain ⟨⟨z, t⟩, h1, h2⟩ := Option.map_eq_some_iff.1 h
  exact ⟨z, by rw [h1]; exact congrArg (fun x => some (z, x)) h2⟩
theorem nGlobals : 1 < Tryd.prog.globals.size := of_decide_eq_true (by kernel_rfl)


set_option maxRecDepth 100000 in
theorem tables {W : World} (hsh : W.ShapedOpen Tryd.prog) (hL : laidMetH Tryd.prog Rows.speakMapsRow.laid W) : ∃ g0 g1 : Nat → Int,
    W.heap[0]? = some (.cells (arr .u64 8 g0) 67 (0, 0)) ∧ W.heap[1]? = some (.cells (arr .u64 80 g1) 101 (0, 0)) := by
  have hM : laidMet Tryd.prog Rows.speakMapsRow.laid W := hL
  obtain ⟨ps, ⟨a1, t1, c1, fu1, p1, q1, hg1, ht1, hv1, hd1, ⟨a0, t0, c0, fu0, p0, q0, hg0, ht0, hv0, hd0, _, _⟩, _⟩, _⟩ := hM
  obtain rfl := Option.some.inj (gWords.symm.trans hg1)
  obtain rfl := Option.some.inj (tWords.symm.trans ht1)
  obtain rfl := Option.some.inj (gFirst.symm.trans hg0)
  obtain rfl := Option.some.inj (tFirst.symm.trans ht0)
  obtain ⟨z1, hr1⟩ := rowWords
  obtain ⟨z0, hr0⟩ := rowFirst
  obtain ⟨d1, hh1, _, _⟩ := hsh.1 1 z1 _ nGlobals hr1
  obtain ⟨d0, hh0, _, _⟩ := hsh.1 0 z0 _ (Nat.lt_trans Nat.zero_lt_one nGlobals) hr0
  have e1 : d1 = c1 := by
    unfold World.var? at hv1
    rw [gWords] at hv1
    simpa [hh1] using hv1
  have e0 : d0 = c0 := by
    unfold World.var? at hv0
    rw [gFirst] at hv0
    simpa [hh0] using hv0
  subst e1 e0
  have l1 : d1.toList.length = 80 := by
    obtain ⟨_, _, _, _, hl, _⟩ := DataW.trod_array uWords hd1
    exact hl.trans cWords
  have l0 : d0.toList.length = 8 := by
    obtain ⟨_, _, _, _, hl, _⟩ := DataW.trod_array uFirst hd0
    exact hl.trans cFirst
  obtain ⟨g1, hc1, _, _⟩ := ints_of uWords uU64 cU64 hd1 l1
  obtain ⟨g0, hc0, _, _⟩ := ints_of uFirst uU64 cU64 hd0 l0
  refine ⟨g0, g1, ?_, ?_⟩
  · rw [hh0]
    unfold arr
    rw [← hc0]
  · rw [hh1]
    unfold arr
    rw [← hc1]

set_option maxRecDepth 100000 in
theorem contract (H : Type) (enc : TypeId × Value → H) (W : World) (base : Nat) (args : Array Value) (ds gs : List (DataW H)) (before : List MemPlace)
    (hval : ∀ (j : Nat) t v, Tryd.f3.params[j]? = some t → args[j]? = some v → Value.okWide Tryd.prog W .any base t v)
    (hW : DataW.Whole enc Tryd.prog Tryd.f3.params.toList Rows.speakMapsSpec.vars false W args.toList ds gs before) (hL : laidMetH Tryd.prog Rows.speakMapsRow.laid W) (hsh : W.ShapedOpen Tryd.prog) :
    Calls Tryd.prog 3 args W fun e W' => ∃ v, e = .returned v ∧ Rows.speakMapsSpec.post enc Tryd.prog Tryd.f3 false true false false W args v W' := by
  have hW' := hW
  obtain ⟨p, q, hA0, hV, rfl, hfz, hnd⟩ := hW
  have hA : DataW.TrodAll enc Tryd.prog W 0 (fun _ => true) true Tryd.f3.params.toList args.toList ds p := hA0
  rw [Tryd.params3] at hA hval
  obtain ⟨v0, vs0, d0, ds0, p0, q0, hargs, rfl, rfl, h0, r0⟩ := trodAll_cons hA
  obtain ⟨rfl, rfl, rfl⟩ := trodAll_nil r0
  obtain rfl : args = #[v0] := by cases args; simp_all
  obtain ⟨rfl, rfl⟩ := trodVars_none hV
  obtain ⟨cs, rfl, hsz, _⟩ : ∃ cs, v0 = .agg cs ∧ cs.size = Tryd.prog.cellsOf 22 ∧ Row.okWide Tryd.prog W .any base 22 cs := by
    have := hval 0 22 v0 rfl rfl
    simpa [Value.okWide, uSeed] using this
  rw [cSeed] at hsz
  obtain ⟨fuel, hf⟩ := h0
  obtain ⟨f, hcs, hwf, hx⟩ := ints_of (cs := cs.toList) uSeed uU8 cU8 hf (by simpa using hsz)
  obtain rfl : cs = arr .u8 32 f := by
    unfold arr
    rw [← hcs]
  simp only [Prod.mk.injEq] at hx
  obtain ⟨rfl, rfl⟩ := hx
  clear hA0
  obtain ⟨g0, g1, hg0, hg1⟩ := tables hsh hL
  refine (maps_true g0 g1 f W hg0 hg1).mono fun e W' ⟨he, hb⟩ => ?_
  subst he
  have reads : ∀ (W' : World) (sp : Nat → Bool), DataW.Trod enc Tryd.prog W' 0 sp true 22 (.agg (arr .u8 32 f)) (.agg ((List.range 32).map fun i => .lit (.int .u8 (f i)))) [] := fun W' sp =>
    ⟨2, ints_mk uSeed uU8 cU8 cSeed hwf⟩
  exact ⟨_, rfl, _, _, _, [], [], [], hW', trodAll_cons_mk (shut_bool uBool _) trodAll_mk0, trodAll_cons_mk (reads W' _) trodAll_mk0, rfl, kept hb _, fun h => by cases h⟩

/-- A WORLD FOR THE WITNESS: the settled one, both tables holding what the program's text lays. -/
def numsOf : DataW Unit → Array Value
  | .agg ps => (ps.map fun d => match d with | .lit (.int k z) => Value.int k z | _ => Value.int .u64 0).toArray
  | _ => #[]
def refill (c : Array Value) : Obj → Obj
  | .cells _ t frozen => .cells c t frozen
  | o => o
noncomputable def laidWorld (os : Os) : World :=
  { World.holding Tryd.prog os ⟨#[], #[], []⟩ with heap := (((World.holding Tryd.prog os ⟨#[], #[], []⟩).heap.modify 0 (refill (numsOf Rows.laid_speakeasy_sha2_first))).modify 1 (refill (numsOf Rows.laid_speakeasy_sha2_words))) }
def seed0 : Value := .agg ((List.range 32).map fun _ => Value.int .u8 0).toArray
theorem laid_met (os : Os) : laidMet Tryd.prog Rows.speakMapsRow.laid ((laidWorld os).forCall (fun _ _ => 0) ⟨#[], #[seed0], []⟩).memory :=
  laidMet_of_run' 8 (by kernel_rfl) (by kernel_rfl)
theorem reads0 (os : Os) {H : Type} (enc : TypeId × Value → H) : ∃ places, DataW.whole enc Tryd.prog ((laidWorld os).forCall (fun _ _ => 0) ⟨#[], #[seed0], []⟩).memory Tryd.f3.params.toList Rows.speakMapsSpec.vars false #[seed0].toList 8 = some ([.agg ((List.range 32).map fun _ => .lit (.int .u8 0))], [], places) :=
  ⟨[], by kernel_rfl⟩

set_option maxRecDepth 100000 in
theorem lifted (os : Os) (started : os.Started) (H : Type) (enc : TypeId × Value → H) (F : Stop.Interp) :
    ReturnsInHanded {} Tryd.checked os 3 .any ((OpenSpec.ofChange Rows.speakMapsSpec).preRow enc Tryd.prog Tryd.f3 Rows.speakMapsRow.domain false Rows.speakMapsRow.laid) (((OpenSpec.ofChange Rows.speakMapsSpec).at F).post enc Tryd.prog Tryd.f3 false true false false) := by
  obtain ⟨places, hx⟩ := reads0 os enc
  refine returnsInHanded_of_row (C := Tryd.checked) (s := OpenSpec.ofChange Rows.speakMapsSpec) own started (by kernel_rfl) Tryd.func3
    (witness_row_at (enc := enc) (C := Tryd.checked) false (laidWorld os) #[seed0] rfl (by kernel_rfl) (by kernel_rfl) (by kernel_rfl)
      (OpenSpec.preRow_of_cond 8 hx (by kernel_rfl) (fun k hk => by cases hk) (by kernel_rfl) (laid_met os))) ?_
  intro W base args ds gs before hval hW _ _ _ hL hsh _
  exact contract H enc W base args ds gs before hval hW hL hsh

theorem said : Rows.SpeakMapsSaid :=
  OpenClaim.holds_of_cond 3 Tryd.f3 rfl rfl rfl rfl rfl rfl rfl ⟨rfl, rfl, rfl, rfl, rfl⟩ rfl rfl rfl rfl rfl (by kernel_rfl) Tryd.func3 (by kernel_rfl)
    (of_decide_eq_true (by kernel_rfl)) (by unfold Func.isWrapper; first | (rw [if_pos (by decide +kernel)]; kernel_rfl) | (rw [if_neg (by decide +kernel)]; exact ⟨rfl, rfl⟩))
    (fun os started H enc _ F => by rw [OpenClaim.pre_eq_preRow]; exact lifted os started H enc F)

/-- No parameter wants a stand-in; the program's own looks are off. -/
theorem plain (f : FuncId) (fn : Func) (hf : Tryd.pinned.checked.prog.funcNamed "speakeasy/speakeasytop.SpeakMaps" = some f) (hfn : Tryd.pinned.checked.prog.funcs[f]? = some fn) :
    false = Tryd.pinned.checked.prog.looks [] ∧ ∀ (j : Nat) t, fn.params[j]? = some t → Tryd.pinned.checked.prog.wantsStandIn t = false := by
  obtain rfl : f = 3 := Option.some.inj ((show Tryd.prog.funcNamed "speakeasy/speakeasytop.SpeakMaps" = some 3 by kernel_rfl).symm.trans hf) |>.symm
  obtain rfl : fn = Tryd.f3 := (Option.some.inj (Tryd.func3.symm.trans hfn)).symm
  refine ⟨by kernel_rfl, fun j t ht => ?_⟩
  rw [Tryd.params3] at ht
  obtain rfl : t = 22 := by simpa using Array.mem_of_getElem? ht
  exact (show Tryd.prog.wantsStandIn 22 = false by kernel_rfl)

/-- THE CARD. -/
theorem speakMaps_holds : Rows.SpeakMapsCardSaid :=
  Claim7.holds_tied_plain_at .later [] _ _ _ _ said (fun _ h => by cases h) (by kernel_rfl) (fun _ h => by cases h) speakMaps_row_tie rfl ⟨rfl, rfl⟩ (by kernel_rfl) rfl plain (by kernel_rfl)
end Go.Proofs.YtbonnnakebfniaaDoor.speakMaps

