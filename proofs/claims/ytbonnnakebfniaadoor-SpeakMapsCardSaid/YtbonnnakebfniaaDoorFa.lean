/- The words for the field's walks: an element's limbs, and the arithmetic that they need. -/
import Derived.Test.YtbonnnakebfniaaDoorRows
import Derived.WalkKit
import Derived.WalkSpells
import Derived.WalkLawsBesides
import Derived.Handy
namespace Go.Proofs.YtbonnnakebfniaaDoor
open Go Go.RowKit

/-- An element's limbs, as a value. -/
abbrev elV (a0 a1 a2 a3 a4 : Int) : Value := .agg #[.int .u64 a0, .int .u64 a1, .int .u64 a2, .int .u64 a3, .int .u64 a4]

theorem mask51 (x : Int) (h0 : 0 ≤ x) (h1 : x < 18446744073709551616) : bits .and .u64 x 2251799813685247 = x % 2251799813685248 :=
  bits_mask .u64 64 (by decide) (fun n h0 h1 => by rw [IntKind.wrap_u64]; omega) 51 (by decide) x h0 h1

/-- What the limbs come to. -/
abbrev lv (a0 a1 a2 a3 a4 : Int) : Int := a0 + 2251799813685248 * a1 + 5070602400912917605986812821504 * a2 + 11417981541647679048466287755595961091061972992 * a3 + 25711008708143844408671393477458601640355247900524685364822016 * a4

abbrev pp : Int := 57896044618658097711785492504343953926634992332820282019728792003956564819949

theorem ret_el {a0 a1 a2 a3 a4 b0 b1 b2 b3 b4 : Int} (h0 : a0 = b0) (h1 : a1 = b1) (h2 : a2 = b2) (h3 : a3 = b3) (h4 : a4 = b4) :
    Ending.returned (elV a0 a1 a2 a3 a4) = .returned (elV b0 b1 b2 b3 b4) := by rw [h0, h1, h2, h3, h4]

set_option maxHeartbeats 1000000 in
theorem carry_any (a0 a1 a2 a3 a4 : Int) (w : World)
    (h0 : 0 ≤ a0 ∧ a0 < 9223372036854775808) (h1 : 0 ≤ a1 ∧ a1 < 9223372036854775808) (h2 : 0 ≤ a2 ∧ a2 < 9223372036854775808)
    (h3 : 0 ≤ a3 ∧ a3 < 9223372036854775808) (h4 : 0 ≤ a4 ∧ a4 < 9223372036854775808) :
    Calls Tryd.prog 23 #[elV a0 a1 a2 a3 a4] w fun e w' =>
      e = .returned (elV
        (a0 % 2251799813685248 + ((a4 + (a3 + (a2 + (a1 + a0 / 2251799813685248) / 2251799813685248) / 2251799813685248) / 2251799813685248) / 2251799813685248) * 19)
        ((a1 + a0 / 2251799813685248) % 2251799813685248)
        ((a2 + (a1 + a0 / 2251799813685248) / 2251799813685248) % 2251799813685248)
        ((a3 + (a2 + (a1 + a0 / 2251799813685248) / 2251799813685248) / 2251799813685248) % 2251799813685248)
        ((a4 + (a3 + (a2 + (a1 + a0 / 2251799813685248) / 2251799813685248) / 2251799813685248) / 2251799813685248) % 2251799813685248)) ∧
      Below w.heap.size w w' := by
  go_enter Tryd.func23, Tryd.ntmps23
  go_wp2
  go_rounds 6
  simp (disch := omega) only [mask51]
  refine bodyPost_ret (by simp [results, Tryd.results23, go_sem]; rfl) rfl ?_
  refine ⟨ret_el ?_ rfl rfl rfl rfl, by go_grown⟩
  rw [IntKind.wrap_u64]
  omega

/-- One carry: the limbs of what was at hand. -/
abbrev cr1 (a0 a1 : Int) : Int := a1 + a0 / 2251799813685248
abbrev cr2 (a0 a1 a2 : Int) : Int := a2 + cr1 a0 a1 / 2251799813685248
abbrev cr3 (a0 a1 a2 a3 : Int) : Int := a3 + cr2 a0 a1 a2 / 2251799813685248
abbrev cr4 (a0 a1 a2 a3 a4 : Int) : Int := a4 + cr3 a0 a1 a2 a3 / 2251799813685248
abbrev crV (a0 a1 a2 a3 a4 : Int) : Value := elV (a0 % 2251799813685248 + cr4 a0 a1 a2 a3 a4 / 2251799813685248 * 19) (cr1 a0 a1 % 2251799813685248) (cr2 a0 a1 a2 % 2251799813685248) (cr3 a0 a1 a2 a3 % 2251799813685248) (cr4 a0 a1 a2 a3 a4 % 2251799813685248)

theorem heap_alloc_lt {w : World} {x : Obj} {b : Nat} (h : b < w.heap.size) : (w.alloc x).heap[b]? = w.heap[b]? := by
  show (w.heap.push x)[b]? = _
  rw [Array.getElem?_push, if_neg (by omega)]
theorem heap_alloc_eq {w : World} {x : Obj} {b : Nat} (h : b = w.heap.size) : (w.alloc x).heap[b]? = some x := by
  subst h
  show (w.heap.push x)[w.heap.size]? = _
  rw [Array.getElem?_push_size]
theorem heap_drew {w : World} {b : Nat} : w.drew.heap[b]? = w.heap[b]? := rfl

/-- What is known of a block, cell by cell. -/
theorem blk {w : World} {b : Nat} {cs : Array Value} {T : TypeId} (h : w.heap[b]? = some (.cells cs T (0, 0))) : (∀ o, w.cell? ⟨b, o, none⟩ = cs[o]?) ∧ (∀ o, w.frozen? ⟨b, o, none⟩ = false) := by
  refine ⟨fun o => ?_, fun o => ?_⟩
  · unfold World.cell?; simp [h]
  · unfold World.frozen?; simp [h]

theorem heap_set_eq {w : World} {b o : Nat} {v : Value} {cs : Array Value} {T : TypeId} {fr : Nat × Nat} (h : w.heap[b]? = some (.cells cs T fr)) : (w.setCell ⟨b, o, none⟩ v).heap[b]? = some (.cells (cs.setIfInBounds o v) T fr) := by
  simp only [World.setCell, Array.getElem?_modify, h]
  simp
theorem heap_set_ne {w : World} {b b' o : Nat} {v : Value} (h : b' ≠ b) : (w.setCell ⟨b, o, none⟩ v).heap[b']? = w.heap[b']? := Below.heap_setCell _ _ _ _ h

/-- Five cells of a block, one behind the other. -/
theorem set5 {w : World} {b : Nat} {x0 x1 x2 x3 x4 : Value} {T : TypeId} {fr : Nat × Nat} (v0 v1 v2 v3 v4 : Value) (h : w.heap[b]? = some (.cells #[x0, x1, x2, x3, x4] T fr)) :
    (((((w.setCell ⟨b, 0, none⟩ v0).setCell ⟨b, 1, none⟩ v1).setCell ⟨b, 2, none⟩ v2).setCell ⟨b, 3, none⟩ v3).setCell ⟨b, 4, none⟩ v4).heap[b]? = some (.cells #[v0, v1, v2, v3, v4] T fr) :=
  heap_set_eq (heap_set_eq (heap_set_eq (heap_set_eq (heap_set_eq h))))
theorem set5_ne {w : World} {b b' : Nat} (v0 v1 v2 v3 v4 : Value) (h : b' ≠ b) :
    (((((w.setCell ⟨b, 0, none⟩ v0).setCell ⟨b, 1, none⟩ v1).setCell ⟨b, 2, none⟩ v2).setCell ⟨b, 3, none⟩ v3).setCell ⟨b, 4, none⟩ v4).heap[b']? = w.heap[b']? := by
  rw [heap_set_ne h, heap_set_ne h, heap_set_ne h, heap_set_ne h, heap_set_ne h]

theorem bcell {W w1 : World} (hb : Below W.heap.size W w1) : (∀ b o, b < W.heap.size → w1.cell? ⟨b, o, none⟩ = W.cell? ⟨b, o, none⟩) ∧ (∀ b o, b < W.heap.size → w1.frozen? ⟨b, o, none⟩ = W.frozen? ⟨b, o, none⟩) :=
  ⟨fun b o h => hb.cell (p := ⟨b, o, none⟩) h, fun b o h => hb.frozen (p := ⟨b, o, none⟩) h⟩

end Go.Proofs.YtbonnnakebfniaaDoor
