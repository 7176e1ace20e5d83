/- field.power: the walk. -/
import Derived.Test.YtbonnnakebfniaaDoorFg
namespace Go.Proofs.YtbonnnakebfniaaDoor
open Go Go.RowKit Num

/-- Where a round of power stands. -/
structure PowW (w wr : World) (T : TypeId) (a f : El) (b : Nat) : Prop where
  low : Below w.heap.size w wr
  big : w.heap.size + 1 < b
  a_at : wr.heap[w.heap.size]? = some (.cells #[.int .u64 a.l0, .int .u64 a.l1, .int .u64 a.l2, .int .u64 a.l3, .int .u64 a.l4] T (0, 0))
  o_at : wr.heap[w.heap.size + 1]? = some (.cells #[.int .u64 0, .int .u64 0, .int .u64 0, .int .u64 0, .int .u64 0] T (0, 0))
  f_at : wr.heap[b]? = some (.cells #[.int .u64 f.l0, .int .u64 f.l1, .int .u64 f.l2, .int .u64 f.l3, .int .u64 f.l4] T (0, 0))

set_option maxHeartbeats 4000000 in
theorem power21_walk (a : El) (m : F) (f s : Nat → El) (hp : Hid (Powers 235 a m f s)) (w : World) :
    Calls Tryd.prog 27 #[a.v, .int .u64 21, .int .i64 0] w fun e w' => e = .returned (f 255).v ∧ Below w.heap.size w w' := by
  obtain ⟨a0, a1, a2, a3, a4⟩ := a
  simp only [El.v]
  go_enter Tryd.func27, Tryd.ntmps27
  go_wp2_with (go_at_call 8; refine (small_any 1 _ (by decide)).mono ?_; rintro e w1 ⟨rfl, hb⟩; have x0 : w1.heap[w.heap.size]? = some (.cells #[.int .u64 a0, .int .u64 a1, .int .u64 a2, .int .u64 a3, .int .u64 a4] 30 (0, 0)) := (by rw [hb.block _ (by simp; omega), heap_alloc_lt (by simp), heap_alloc_eq rfl]); have x1 : w1.heap[w.heap.size + 1]? = some (.cells #[.int .u64 0, .int .u64 0, .int .u64 0, .int .u64 0, .int .u64 0] 30 (0, 0)) := (by rw [hb.block _ (by simp), heap_alloc_eq (by simp)]))
  have hsz : w.heap.size + 1 < w1.heap.size := by have := hb.size; simp at this; omega
  have hlow : Below w.heap.size w w1 := by
    refine Below.trans ?_ (hb.mono (by simp; omega))
    go_grown
  go_loopg [9] 255 (fun k s9 wr => ∃ n : Nat, n ≤ 255 ∧ k = 255 - n ∧ s9 = .int .i64 (254 - (n : Int)) ∧ PowW w wr 30 ⟨a0, a1, a2, a3, a4⟩ (f n) w1.heap.size)
  case atStart =>
    refine ⟨0, by omega, rfl, rfl, ?_, hsz, ?_, ?_, ?_⟩
    · exact Below.trans hlow (by go_grown)
    · rw [heap_alloc_lt (by omega)]; exact x0
    · rw [heap_alloc_lt (by omega)]; exact x1
    · rw [hp.out.zero, heap_alloc_eq rfl]
  case round =>
    obtain ⟨n, hn, hk, hs9, hlow', hbig, ha, ho, hf⟩ := hrel
    simp only at ha
    clear hb x0 x1 hlow
    obtain ⟨a1', a2'⟩ := blk ha
    obtain ⟨o1', o2'⟩ := blk ho
    have hbl : w1.heap.size < wr.heap.size := (Array.getElem?_eq_some_iff.1 hf).1
    by_cases hx8 : n ≤ 246
    · obtain rfl := hs9
      obtain ⟨f1', f2'⟩ := blk hf
      have h0 : (0 : Int) ≤ 254 - n := by omega
      have h8 : (8 : Int) ≤ 254 - n := by omega
      have hbit : Hid (bitOf 235 n = true) := Hid_mk (by simp [bitOf, hx8])
      go_wp2_with (go_at_call 45; refine (hp.out.sq n _).mono ?_; rintro e w2 ⟨rfl, hb2⟩; have y0 := Mix.low_heap hb2 ha; have y1 := Mix.low_heap hb2 hf; have yo := Mix.low_heap hb2 ho; obtain ⟨y2, y3⟩ := blk y0; obtain ⟨y4, y5⟩ := blk y1)
      go_wp2_with (go_at_call 10; refine (hp.out.yes n hbit.out _).mono ?_; rintro e w3 ⟨rfl, hb3⟩; have q0 := Mix.low_heap hb3 ((set5_ne _ _ _ _ _ (by omega)).trans y0); have q1 := Mix.low_heap hb3 (set5 _ _ _ _ _ y1); have qo := Mix.low_heap hb3 ((set5_ne _ _ _ _ _ (by omega)).trans yo); obtain ⟨q2, q3⟩ := blk q1)
      go_roundg (255 - (n + 1))
      case measure => omega
      case rel =>
        refine ⟨n + 1, by omega, rfl, congrArg (Value.int .i64) (by omega), ?_, hsz, (set5_ne _ _ _ _ _ (by omega)).trans q0, (set5_ne _ _ _ _ _ (by omega)).trans qo, set5 _ _ _ _ _ q1⟩
        go_grown
        have := hb2.size
        refine Below.trans ?_ (hb3.mono (by simp; omega))
        go_grown
        exact Below.trans hlow' (hb2.mono (by omega))
    · have hor : n = 247 ∨ n = 248 ∨ n = 249 ∨ n = 250 ∨ n = 251 ∨ n = 252 ∨ n = 253 ∨ n = 254 ∨ n = 255 := by omega
      clear hn hx8
      rcases hor with rfl | rfl | rfl | rfl | rfl | rfl | rfl | rfl | rfl
      · have hs9' := hs9.trans (show _ = Value.int .i64 7 from rfl)
        clear hs9; obtain rfl := hs9'
        obtain ⟨f1', f2'⟩ := blk hf
        have hbit : Hid (bitOf 235 247 = true) := Hid_mk (by decide)
        go_wp2_with (go_at_call 45; refine (hp.out.sq 247 _).mono ?_; rintro e w2 ⟨rfl, hb2⟩; have y0 := Mix.low_heap hb2 ha; have y1 := Mix.low_heap hb2 hf; have yo := Mix.low_heap hb2 ho; obtain ⟨y2, y3⟩ := blk y0; obtain ⟨y4, y5⟩ := blk y1)
        go_wp2_with (go_at_call 10; refine (hp.out.yes 247 hbit.out _).mono ?_; rintro e w3 ⟨rfl, hb3⟩; have q0 := Mix.low_heap hb3 ((set5_ne _ _ _ _ _ (by omega)).trans y0); have q1 := Mix.low_heap hb3 (set5 _ _ _ _ _ y1); have qo := Mix.low_heap hb3 ((set5_ne _ _ _ _ _ (by omega)).trans yo); obtain ⟨q2, q3⟩ := blk q1)
        go_roundg (255 - (248))
        case measure => omega
        case rel =>
          refine ⟨248, by omega, rfl, rfl, ?_, hsz, (set5_ne _ _ _ _ _ (by omega)).trans q0, (set5_ne _ _ _ _ _ (by omega)).trans qo, set5 _ _ _ _ _ q1⟩
          go_grown
          have := hb2.size
          refine Below.trans ?_ (hb3.mono (by simp; omega))
          go_grown
          exact Below.trans hlow' (hb2.mono (by omega))
      · have hs9' := hs9.trans (show _ = Value.int .i64 6 from rfl)
        clear hs9; obtain rfl := hs9'
        obtain ⟨f1', f2'⟩ := blk hf
        have hbit : Hid (bitOf 235 248 = true) := Hid_mk (by decide)
        go_wp2_with (go_at_call 45; refine (hp.out.sq 248 _).mono ?_; rintro e w2 ⟨rfl, hb2⟩; have y0 := Mix.low_heap hb2 ha; have y1 := Mix.low_heap hb2 hf; have yo := Mix.low_heap hb2 ho; obtain ⟨y2, y3⟩ := blk y0; obtain ⟨y4, y5⟩ := blk y1)
        go_wp2_with (go_at_call 10; refine (hp.out.yes 248 hbit.out _).mono ?_; rintro e w3 ⟨rfl, hb3⟩; have q0 := Mix.low_heap hb3 ((set5_ne _ _ _ _ _ (by omega)).trans y0); have q1 := Mix.low_heap hb3 (set5 _ _ _ _ _ y1); have qo := Mix.low_heap hb3 ((set5_ne _ _ _ _ _ (by omega)).trans yo); obtain ⟨q2, q3⟩ := blk q1)
        go_roundg (255 - (249))
        case measure => omega
        case rel =>
          refine ⟨249, by omega, rfl, rfl, ?_, hsz, (set5_ne _ _ _ _ _ (by omega)).trans q0, (set5_ne _ _ _ _ _ (by omega)).trans qo, set5 _ _ _ _ _ q1⟩
          go_grown
          have := hb2.size
          refine Below.trans ?_ (hb3.mono (by simp; omega))
          go_grown
          exact Below.trans hlow' (hb2.mono (by omega))
      · have hs9' := hs9.trans (show _ = Value.int .i64 5 from rfl)
        clear hs9; obtain rfl := hs9'
        obtain ⟨f1', f2'⟩ := blk hf
        have hbit : Hid (bitOf 235 249 = true) := Hid_mk (by decide)
        go_wp2_with (go_at_call 45; refine (hp.out.sq 249 _).mono ?_; rintro e w2 ⟨rfl, hb2⟩; have y0 := Mix.low_heap hb2 ha; have y1 := Mix.low_heap hb2 hf; have yo := Mix.low_heap hb2 ho; obtain ⟨y2, y3⟩ := blk y0; obtain ⟨y4, y5⟩ := blk y1)
        go_wp2_with (go_at_call 10; refine (hp.out.yes 249 hbit.out _).mono ?_; rintro e w3 ⟨rfl, hb3⟩; have q0 := Mix.low_heap hb3 ((set5_ne _ _ _ _ _ (by omega)).trans y0); have q1 := Mix.low_heap hb3 (set5 _ _ _ _ _ y1); have qo := Mix.low_heap hb3 ((set5_ne _ _ _ _ _ (by omega)).trans yo); obtain ⟨q2, q3⟩ := blk q1)
        go_roundg (255 - (250))
        case measure => omega
        case rel =>
          refine ⟨250, by omega, rfl, rfl, ?_, hsz, (set5_ne _ _ _ _ _ (by omega)).trans q0, (set5_ne _ _ _ _ _ (by omega)).trans qo, set5 _ _ _ _ _ q1⟩
          go_grown
          have := hb2.size
          refine Below.trans ?_ (hb3.mono (by simp; omega))
          go_grown
          exact Below.trans hlow' (hb2.mono (by omega))
      · have hs9' := hs9.trans (show _ = Value.int .i64 4 from rfl)
        clear hs9; obtain rfl := hs9'
        obtain ⟨f1', f2'⟩ := blk hf
        have hbit : Hid (bitOf 235 250 = false) := Hid_mk (by decide)
        have hno := Hid_mk (hp.out.no 250 hbit.out)
        go_wp2_with (go_at_call 45; refine (hp.out.sq 250 _).mono ?_; rintro e w2 ⟨rfl, hb2⟩; have y0 := Mix.low_heap hb2 ha; have y1 := Mix.low_heap hb2 hf; have yo := Mix.low_heap hb2 ho; obtain ⟨y2, y3⟩ := blk y0; obtain ⟨y4, y5⟩ := blk y1)
        go_roundg (255 - (251))
        case measure => omega
        case rel =>
          refine ⟨251, by omega, rfl, rfl, ?_, hsz, (set5_ne _ _ _ _ _ (by omega)).trans y0, (set5_ne _ _ _ _ _ (by omega)).trans yo, ?_⟩
          · go_grown
            exact Below.trans hlow' (hb2.mono (by omega))
          · have hq := set5 (.int .u64 (s 250).l0) (.int .u64 (s 250).l1) (.int .u64 (s 250).l2) (.int .u64 (s 250).l3) (.int .u64 (s 250).l4) y1
            rw [← show s 250 = f (251) from hno.out]; exact hq
      · have hs9' := hs9.trans (show _ = Value.int .i64 3 from rfl)
        clear hs9; obtain rfl := hs9'
        obtain ⟨f1', f2'⟩ := blk hf
        have hbit : Hid (bitOf 235 251 = true) := Hid_mk (by decide)
        go_wp2_with (go_at_call 45; refine (hp.out.sq 251 _).mono ?_; rintro e w2 ⟨rfl, hb2⟩; have y0 := Mix.low_heap hb2 ha; have y1 := Mix.low_heap hb2 hf; have yo := Mix.low_heap hb2 ho; obtain ⟨y2, y3⟩ := blk y0; obtain ⟨y4, y5⟩ := blk y1)
        go_wp2_with (go_at_call 10; refine (hp.out.yes 251 hbit.out _).mono ?_; rintro e w3 ⟨rfl, hb3⟩; have q0 := Mix.low_heap hb3 ((set5_ne _ _ _ _ _ (by omega)).trans y0); have q1 := Mix.low_heap hb3 (set5 _ _ _ _ _ y1); have qo := Mix.low_heap hb3 ((set5_ne _ _ _ _ _ (by omega)).trans yo); obtain ⟨q2, q3⟩ := blk q1)
        go_roundg (255 - (252))
        case measure => omega
        case rel =>
          refine ⟨252, by omega, rfl, rfl, ?_, hsz, (set5_ne _ _ _ _ _ (by omega)).trans q0, (set5_ne _ _ _ _ _ (by omega)).trans qo, set5 _ _ _ _ _ q1⟩
          go_grown
          have := hb2.size
          refine Below.trans ?_ (hb3.mono (by simp; omega))
          go_grown
          exact Below.trans hlow' (hb2.mono (by omega))
      · have hs9' := hs9.trans (show _ = Value.int .i64 2 from rfl)
        clear hs9; obtain rfl := hs9'
        obtain ⟨f1', f2'⟩ := blk hf
        have hbit : Hid (bitOf 235 252 = false) := Hid_mk (by decide)
        have hno := Hid_mk (hp.out.no 252 hbit.out)
        go_wp2_with (go_at_call 45; refine (hp.out.sq 252 _).mono ?_; rintro e w2 ⟨rfl, hb2⟩; have y0 := Mix.low_heap hb2 ha; have y1 := Mix.low_heap hb2 hf; have yo := Mix.low_heap hb2 ho; obtain ⟨y2, y3⟩ := blk y0; obtain ⟨y4, y5⟩ := blk y1)
        go_roundg (255 - (253))
        case measure => omega
        case rel =>
          refine ⟨253, by omega, rfl, rfl, ?_, hsz, (set5_ne _ _ _ _ _ (by omega)).trans y0, (set5_ne _ _ _ _ _ (by omega)).trans yo, ?_⟩
          · go_grown
            exact Below.trans hlow' (hb2.mono (by omega))
          · have hq := set5 (.int .u64 (s 252).l0) (.int .u64 (s 252).l1) (.int .u64 (s 252).l2) (.int .u64 (s 252).l3) (.int .u64 (s 252).l4) y1
            rw [← show s 252 = f (253) from hno.out]; exact hq
      · have hs9' := hs9.trans (show _ = Value.int .i64 1 from rfl)
        clear hs9; obtain rfl := hs9'
        obtain ⟨f1', f2'⟩ := blk hf
        have hbit : Hid (bitOf 235 253 = true) := Hid_mk (by decide)
        go_wp2_with (go_at_call 45; refine (hp.out.sq 253 _).mono ?_; rintro e w2 ⟨rfl, hb2⟩; have y0 := Mix.low_heap hb2 ha; have y1 := Mix.low_heap hb2 hf; have yo := Mix.low_heap hb2 ho; obtain ⟨y2, y3⟩ := blk y0; obtain ⟨y4, y5⟩ := blk y1)
        go_wp2_with (go_at_call 10; refine (hp.out.yes 253 hbit.out _).mono ?_; rintro e w3 ⟨rfl, hb3⟩; have q0 := Mix.low_heap hb3 ((set5_ne _ _ _ _ _ (by omega)).trans y0); have q1 := Mix.low_heap hb3 (set5 _ _ _ _ _ y1); have qo := Mix.low_heap hb3 ((set5_ne _ _ _ _ _ (by omega)).trans yo); obtain ⟨q2, q3⟩ := blk q1)
        go_roundg (255 - (254))
        case measure => omega
        case rel =>
          refine ⟨254, by omega, rfl, rfl, ?_, hsz, (set5_ne _ _ _ _ _ (by omega)).trans q0, (set5_ne _ _ _ _ _ (by omega)).trans qo, set5 _ _ _ _ _ q1⟩
          go_grown
          have := hb2.size
          refine Below.trans ?_ (hb3.mono (by simp; omega))
          go_grown
          exact Below.trans hlow' (hb2.mono (by omega))
      · have hs9' := hs9.trans (show _ = Value.int .i64 0 from rfl)
        clear hs9; obtain rfl := hs9'
        obtain ⟨f1', f2'⟩ := blk hf
        have hbit : Hid (bitOf 235 254 = true) := Hid_mk (by decide)
        go_wp2_with (go_at_call 45; refine (hp.out.sq 254 _).mono ?_; rintro e w2 ⟨rfl, hb2⟩; have y0 := Mix.low_heap hb2 ha; have y1 := Mix.low_heap hb2 hf; have yo := Mix.low_heap hb2 ho; obtain ⟨y2, y3⟩ := blk y0; obtain ⟨y4, y5⟩ := blk y1)
        go_wp2_with (go_at_call 10; refine (hp.out.yes 254 hbit.out _).mono ?_; rintro e w3 ⟨rfl, hb3⟩; have q0 := Mix.low_heap hb3 ((set5_ne _ _ _ _ _ (by omega)).trans y0); have q1 := Mix.low_heap hb3 (set5 _ _ _ _ _ y1); have qo := Mix.low_heap hb3 ((set5_ne _ _ _ _ _ (by omega)).trans yo); obtain ⟨q2, q3⟩ := blk q1)
        go_roundg (255 - (255))
        case measure => omega
        case rel =>
          refine ⟨255, by omega, rfl, rfl, ?_, hsz, (set5_ne _ _ _ _ _ (by omega)).trans q0, (set5_ne _ _ _ _ _ (by omega)).trans qo, set5 _ _ _ _ _ q1⟩
          go_grown
          have := hb2.size
          refine Below.trans ?_ (hb3.mono (by simp; omega))
          go_grown
          exact Below.trans hlow' (hb2.mono (by omega))
      · have hs9' := hs9.trans (show _ = Value.int .i64 (-1) from rfl)
        clear hs9; obtain rfl := hs9'
        obtain ⟨f1', f2'⟩ := blk hf
        go_wp2
        refine bodyPost_ret (by simp [results, Tryd.results27, go_sem, o1']; rfl) rfl ?_
        refine ⟨rfl, ?_⟩
        go_grown

set_option maxHeartbeats 4000000 in
theorem power20_walk (a : El) (m : F) (f s : Nat → El) (hp : Hid (Powers 236 a m f s)) (w : World) :
    Calls Tryd.prog 27 #[a.v, .int .u64 20, .int .i64 2] w fun e w' => e = .returned (f 253).v ∧ Below w.heap.size w w' := by
  obtain ⟨a0, a1, a2, a3, a4⟩ := a
  simp only [El.v]
  go_enter Tryd.func27, Tryd.ntmps27
  go_wp2_with (go_at_call 8; refine (small_any 1 _ (by decide)).mono ?_; rintro e w1 ⟨rfl, hb⟩; have x0 : w1.heap[w.heap.size]? = some (.cells #[.int .u64 a0, .int .u64 a1, .int .u64 a2, .int .u64 a3, .int .u64 a4] 30 (0, 0)) := (by rw [hb.block _ (by simp; omega), heap_alloc_lt (by simp), heap_alloc_eq rfl]); have x1 : w1.heap[w.heap.size + 1]? = some (.cells #[.int .u64 0, .int .u64 0, .int .u64 0, .int .u64 0, .int .u64 0] 30 (0, 0)) := (by rw [hb.block _ (by simp), heap_alloc_eq (by simp)]))
  have hsz : w.heap.size + 1 < w1.heap.size := by have := hb.size; simp at this; omega
  have hlow : Below w.heap.size w w1 := by
    refine Below.trans ?_ (hb.mono (by simp; omega))
    go_grown
  go_loopg [9] 253 (fun k s9 wr => ∃ n : Nat, n ≤ 253 ∧ k = 253 - n ∧ s9 = .int .i64 (254 - (n : Int)) ∧ PowW w wr 30 ⟨a0, a1, a2, a3, a4⟩ (f n) w1.heap.size)
  case atStart =>
    refine ⟨0, by omega, rfl, rfl, ?_, hsz, ?_, ?_, ?_⟩
    · exact Below.trans hlow (by go_grown)
    · rw [heap_alloc_lt (by omega)]; exact x0
    · rw [heap_alloc_lt (by omega)]; exact x1
    · rw [hp.out.zero, heap_alloc_eq rfl]
  case round =>
    obtain ⟨n, hn, hk, hs9, hlow', hbig, ha, ho, hf⟩ := hrel
    simp only at ha
    clear hb x0 x1 hlow
    obtain ⟨a1', a2'⟩ := blk ha
    obtain ⟨o1', o2'⟩ := blk ho
    have hbl : w1.heap.size < wr.heap.size := (Array.getElem?_eq_some_iff.1 hf).1
    by_cases hx8 : n ≤ 246
    · obtain rfl := hs9
      obtain ⟨f1', f2'⟩ := blk hf
      have h0 : (2 : Int) ≤ 254 - n := by omega
      have h8 : (8 : Int) ≤ 254 - n := by omega
      have hbit : Hid (bitOf 236 n = true) := Hid_mk (by simp [bitOf, hx8])
      go_wp2_with (go_at_call 45; refine (hp.out.sq n _).mono ?_; rintro e w2 ⟨rfl, hb2⟩; have y0 := Mix.low_heap hb2 ha; have y1 := Mix.low_heap hb2 hf; have yo := Mix.low_heap hb2 ho; obtain ⟨y2, y3⟩ := blk y0; obtain ⟨y4, y5⟩ := blk y1)
      go_wp2_with (go_at_call 10; refine (hp.out.yes n hbit.out _).mono ?_; rintro e w3 ⟨rfl, hb3⟩; have q0 := Mix.low_heap hb3 ((set5_ne _ _ _ _ _ (by omega)).trans y0); have q1 := Mix.low_heap hb3 (set5 _ _ _ _ _ y1); have qo := Mix.low_heap hb3 ((set5_ne _ _ _ _ _ (by omega)).trans yo); obtain ⟨q2, q3⟩ := blk q1)
      go_roundg (253 - (n + 1))
      case measure => omega
      case rel =>
        refine ⟨n + 1, by omega, rfl, congrArg (Value.int .i64) (by omega), ?_, hsz, (set5_ne _ _ _ _ _ (by omega)).trans q0, (set5_ne _ _ _ _ _ (by omega)).trans qo, set5 _ _ _ _ _ q1⟩
        go_grown
        have := hb2.size
        refine Below.trans ?_ (hb3.mono (by simp; omega))
        go_grown
        exact Below.trans hlow' (hb2.mono (by omega))
    · have hor : n = 247 ∨ n = 248 ∨ n = 249 ∨ n = 250 ∨ n = 251 ∨ n = 252 ∨ n = 253 := by omega
      clear hn hx8
      rcases hor with rfl | rfl | rfl | rfl | rfl | rfl | rfl
      · have hs9' := hs9.trans (show _ = Value.int .i64 7 from rfl)
        clear hs9; obtain rfl := hs9'
        obtain ⟨f1', f2'⟩ := blk hf
        have hbit : Hid (bitOf 236 247 = true) := Hid_mk (by decide)
        go_wp2_with (go_at_call 45; refine (hp.out.sq 247 _).mono ?_; rintro e w2 ⟨rfl, hb2⟩; have y0 := Mix.low_heap hb2 ha; have y1 := Mix.low_heap hb2 hf; have yo := Mix.low_heap hb2 ho; obtain ⟨y2, y3⟩ := blk y0; obtain ⟨y4, y5⟩ := blk y1)
        go_wp2_with (go_at_call 10; refine (hp.out.yes 247 hbit.out _).mono ?_; rintro e w3 ⟨rfl, hb3⟩; have q0 := Mix.low_heap hb3 ((set5_ne _ _ _ _ _ (by omega)).trans y0); have q1 := Mix.low_heap hb3 (set5 _ _ _ _ _ y1); have qo := Mix.low_heap hb3 ((set5_ne _ _ _ _ _ (by omega)).trans yo); obtain ⟨q2, q3⟩ := blk q1)
        go_roundg (253 - (248))
        case measure => omega
        case rel =>
          refine ⟨248, by omega, rfl, rfl, ?_, hsz, (set5_ne _ _ _ _ _ (by omega)).trans q0, (set5_ne _ _ _ _ _ (by omega)).trans qo, set5 _ _ _ _ _ q1⟩
          go_grown
          have := hb2.size
          refine Below.trans ?_ (hb3.mono (by simp; omega))
          go_grown
          exact Below.trans hlow' (hb2.mono (by omega))
      · have hs9' := hs9.trans (show _ = Value.int .i64 6 from rfl)
        clear hs9; obtain rfl := hs9'
        obtain ⟨f1', f2'⟩ := blk hf
        have hbit : Hid (bitOf 236 248 = true) := Hid_mk (by decide)
        go_wp2_with (go_at_call 45; refine (hp.out.sq 248 _).mono ?_; rintro e w2 ⟨rfl, hb2⟩; have y0 := Mix.low_heap hb2 ha; have y1 := Mix.low_heap hb2 hf; have yo := Mix.low_heap hb2 ho; obtain ⟨y2, y3⟩ := blk y0; obtain ⟨y4, y5⟩ := blk y1)
        go_wp2_with (go_at_call 10; refine (hp.out.yes 248 hbit.out _).mono ?_; rintro e w3 ⟨rfl, hb3⟩; have q0 := Mix.low_heap hb3 ((set5_ne _ _ _ _ _ (by omega)).trans y0); have q1 := Mix.low_heap hb3 (set5 _ _ _ _ _ y1); have qo := Mix.low_heap hb3 ((set5_ne _ _ _ _ _ (by omega)).trans yo); obtain ⟨q2, q3⟩ := blk q1)
        go_roundg (253 - (249))
        case measure => omega
        case rel =>
          refine ⟨249, by omega, rfl, rfl, ?_, hsz, (set5_ne _ _ _ _ _ (by omega)).trans q0, (set5_ne _ _ _ _ _ (by omega)).trans qo, set5 _ _ _ _ _ q1⟩
          go_grown
          have := hb2.size
          refine Below.trans ?_ (hb3.mono (by simp; omega))
          go_grown
          exact Below.trans hlow' (hb2.mono (by omega))
      · have hs9' := hs9.trans (show _ = Value.int .i64 5 from rfl)
        clear hs9; obtain rfl := hs9'
        obtain ⟨f1', f2'⟩ := blk hf
        have hbit : Hid (bitOf 236 249 = true) := Hid_mk (by decide)
        go_wp2_with (go_at_call 45; refine (hp.out.sq 249 _).mono ?_; rintro e w2 ⟨rfl, hb2⟩; have y0 := Mix.low_heap hb2 ha; have y1 := Mix.low_heap hb2 hf; have yo := Mix.low_heap hb2 ho; obtain ⟨y2, y3⟩ := blk y0; obtain ⟨y4, y5⟩ := blk y1)
        go_wp2_with (go_at_call 10; refine (hp.out.yes 249 hbit.out _).mono ?_; rintro e w3 ⟨rfl, hb3⟩; have q0 := Mix.low_heap hb3 ((set5_ne _ _ _ _ _ (by omega)).trans y0); have q1 := Mix.low_heap hb3 (set5 _ _ _ _ _ y1); have qo := Mix.low_heap hb3 ((set5_ne _ _ _ _ _ (by omega)).trans yo); obtain ⟨q2, q3⟩ := blk q1)
        go_roundg (253 - (250))
        case measure => omega
        case rel =>
          refine ⟨250, by omega, rfl, rfl, ?_, hsz, (set5_ne _ _ _ _ _ (by omega)).trans q0, (set5_ne _ _ _ _ _ (by omega)).trans qo, set5 _ _ _ _ _ q1⟩
          go_grown
          have := hb2.size
          refine Below.trans ?_ (hb3.mono (by simp; omega))
          go_grown
          exact Below.trans hlow' (hb2.mono (by omega))
      · have hs9' := hs9.trans (show _ = Value.int .i64 4 from rfl)
        clear hs9; obtain rfl := hs9'
        obtain ⟨f1', f2'⟩ := blk hf
        have hbit : Hid (bitOf 236 250 = false) := Hid_mk (by decide)
        have hno := Hid_mk (hp.out.no 250 hbit.out)
        go_wp2_with (go_at_call 45; refine (hp.out.sq 250 _).mono ?_; rintro e w2 ⟨rfl, hb2⟩; have y0 := Mix.low_heap hb2 ha; have y1 := Mix.low_heap hb2 hf; have yo := Mix.low_heap hb2 ho; obtain ⟨y2, y3⟩ := blk y0; obtain ⟨y4, y5⟩ := blk y1)
        go_roundg (253 - (251))
        case measure => omega
        case rel =>
          refine ⟨251, by omega, rfl, rfl, ?_, hsz, (set5_ne _ _ _ _ _ (by omega)).trans y0, (set5_ne _ _ _ _ _ (by omega)).trans yo, ?_⟩
          · go_grown
            exact Below.trans hlow' (hb2.mono (by omega))
          · have hq := set5 (.int .u64 (s 250).l0) (.int .u64 (s 250).l1) (.int .u64 (s 250).l2) (.int .u64 (s 250).l3) (.int .u64 (s 250).l4) y1
            rw [← show s 250 = f (251) from hno.out]; exact hq
      · have hs9' := hs9.trans (show _ = Value.int .i64 3 from rfl)
        clear hs9; obtain rfl := hs9'
        obtain ⟨f1', f2'⟩ := blk hf
        have hbit : Hid (bitOf 236 251 = true) := Hid_mk (by decide)
        go_wp2_with (go_at_call 45; refine (hp.out.sq 251 _).mono ?_; rintro e w2 ⟨rfl, hb2⟩; have y0 := Mix.low_heap hb2 ha; have y1 := Mix.low_heap hb2 hf; have yo := Mix.low_heap hb2 ho; obtain ⟨y2, y3⟩ := blk y0; obtain ⟨y4, y5⟩ := blk y1)
        go_wp2_with (go_at_call 10; refine (hp.out.yes 251 hbit.out _).mono ?_; rintro e w3 ⟨rfl, hb3⟩; have q0 := Mix.low_heap hb3 ((set5_ne _ _ _ _ _ (by omega)).trans y0); have q1 := Mix.low_heap hb3 (set5 _ _ _ _ _ y1); have qo := Mix.low_heap hb3 ((set5_ne _ _ _ _ _ (by omega)).trans yo); obtain ⟨q2, q3⟩ := blk q1)
        go_roundg (253 - (252))
        case measure => omega
        case rel =>
          refine ⟨252, by omega, rfl, rfl, ?_, hsz, (set5_ne _ _ _ _ _ (by omega)).trans q0, (set5_ne _ _ _ _ _ (by omega)).trans qo, set5 _ _ _ _ _ q1⟩
          go_grown
          have := hb2.size
          refine Below.trans ?_ (hb3.mono (by simp; omega))
          go_grown
          exact Below.trans hlow' (hb2.mono (by omega))
      · have hs9' := hs9.trans (show _ = Value.int .i64 2 from rfl)
        clear hs9; obtain rfl := hs9'
        obtain ⟨f1', f2'⟩ := blk hf
        have hbit : Hid (bitOf 236 252 = true) := Hid_mk (by decide)
        go_wp2_with (go_at_call 45; refine (hp.out.sq 252 _).mono ?_; rintro e w2 ⟨rfl, hb2⟩; have y0 := Mix.low_heap hb2 ha; have y1 := Mix.low_heap hb2 hf; have yo := Mix.low_heap hb2 ho; obtain ⟨y2, y3⟩ := blk y0; obtain ⟨y4, y5⟩ := blk y1)
        go_wp2_with (go_at_call 10; refine (hp.out.yes 252 hbit.out _).mono ?_; rintro e w3 ⟨rfl, hb3⟩; have q0 := Mix.low_heap hb3 ((set5_ne _ _ _ _ _ (by omega)).trans y0); have q1 := Mix.low_heap hb3 (set5 _ _ _ _ _ y1); have qo := Mix.low_heap hb3 ((set5_ne _ _ _ _ _ (by omega)).trans yo); obtain ⟨q2, q3⟩ := blk q1)
        go_roundg (253 - (253))
        case measure => omega
        case rel =>
          refine ⟨253, by omega, rfl, rfl, ?_, hsz, (set5_ne _ _ _ _ _ (by omega)).trans q0, (set5_ne _ _ _ _ _ (by omega)).trans qo, set5 _ _ _ _ _ q1⟩
          go_grown
          have := hb2.size
          refine Below.trans ?_ (hb3.mono (by simp; omega))
          go_grown
          exact Below.trans hlow' (hb2.mono (by omega))
      · have hs9' := hs9.trans (show _ = Value.int .i64 1 from rfl)
        clear hs9; obtain rfl := hs9'
        obtain ⟨f1', f2'⟩ := blk hf
        go_wp2
        refine bodyPost_ret (by simp [results, Tryd.results27, go_sem, o1']; rfl) rfl ?_
        refine ⟨rfl, ?_⟩
        go_grown

set_option maxHeartbeats 4000000 in
theorem power24_walk (a : El) (m : F) (f s : Nat → El) (hp : Hid (Powers 232 a m f s)) (w : World) :
    Calls Tryd.prog 27 #[a.v, .int .u64 24, .int .i64 3] w fun e w' => e = .returned (f 252).v ∧ Below w.heap.size w w' := by
  obtain ⟨a0, a1, a2, a3, a4⟩ := a
  simp only [El.v]
  go_enter Tryd.func27, Tryd.ntmps27
  go_wp2_with (go_at_call 8; refine (small_any 1 _ (by decide)).mono ?_; rintro e w1 ⟨rfl, hb⟩; have x0 : w1.heap[w.heap.size]? = some (.cells #[.int .u64 a0, .int .u64 a1, .int .u64 a2, .int .u64 a3, .int .u64 a4] 30 (0, 0)) := (by rw [hb.block _ (by simp; omega), heap_alloc_lt (by simp), heap_alloc_eq rfl]); have x1 : w1.heap[w.heap.size + 1]? = some (.cells #[.int .u64 0, .int .u64 0, .int .u64 0, .int .u64 0, .int .u64 0] 30 (0, 0)) := (by rw [hb.block _ (by simp), heap_alloc_eq (by simp)]))
  have hsz : w.heap.size + 1 < w1.heap.size := by have := hb.size; simp at this; omega
  have hlow : Below w.heap.size w w1 := by
    refine Below.trans ?_ (hb.mono (by simp; omega))
    go_grown
  go_loopg [9] 252 (fun k s9 wr => ∃ n : Nat, n ≤ 252 ∧ k = 252 - n ∧ s9 = .int .i64 (254 - (n : Int)) ∧ PowW w wr 30 ⟨a0, a1, a2, a3, a4⟩ (f n) w1.heap.size)
  case atStart =>
    refine ⟨0, by omega, rfl, rfl, ?_, hsz, ?_, ?_, ?_⟩
    · exact Below.trans hlow (by go_grown)
    · rw [heap_alloc_lt (by omega)]; exact x0
    · rw [heap_alloc_lt (by omega)]; exact x1
    · rw [hp.out.zero, heap_alloc_eq rfl]
  case round =>
    obtain ⟨n, hn, hk, hs9, hlow', hbig, ha, ho, hf⟩ := hrel
    simp only at ha
    clear hb x0 x1 hlow
    obtain ⟨a1', a2'⟩ := blk ha
    obtain ⟨o1', o2'⟩ := blk ho
    have hbl : w1.heap.size < wr.heap.size := (Array.getElem?_eq_some_iff.1 hf).1
    by_cases hx8 : n ≤ 246
    · obtain rfl := hs9
      obtain ⟨f1', f2'⟩ := blk hf
      have h0 : (3 : Int) ≤ 254 - n := by omega
      have h8 : (8 : Int) ≤ 254 - n := by omega
      have hbit : Hid (bitOf 232 n = true) := Hid_mk (by simp [bitOf, hx8])
      go_wp2_with (go_at_call 45; refine (hp.out.sq n _).mono ?_; rintro e w2 ⟨rfl, hb2⟩; have y0 := Mix.low_heap hb2 ha; have y1 := Mix.low_heap hb2 hf; have yo := Mix.low_heap hb2 ho; obtain ⟨y2, y3⟩ := blk y0; obtain ⟨y4, y5⟩ := blk y1)
      go_wp2_with (go_at_call 10; refine (hp.out.yes n hbit.out _).mono ?_; rintro e w3 ⟨rfl, hb3⟩; have q0 := Mix.low_heap hb3 ((set5_ne _ _ _ _ _ (by omega)).trans y0); have q1 := Mix.low_heap hb3 (set5 _ _ _ _ _ y1); have qo := Mix.low_heap hb3 ((set5_ne _ _ _ _ _ (by omega)).trans yo); obtain ⟨q2, q3⟩ := blk q1)
      go_roundg (252 - (n + 1))
      case measure => omega
      case rel =>
        refine ⟨n + 1, by omega, rfl, congrArg (Value.int .i64) (by omega), ?_, hsz, (set5_ne _ _ _ _ _ (by omega)).trans q0, (set5_ne _ _ _ _ _ (by omega)).trans qo, set5 _ _ _ _ _ q1⟩
        go_grown
        have := hb2.size
        refine Below.trans ?_ (hb3.mono (by simp; omega))
        go_grown
        exact Below.trans hlow' (hb2.mono (by omega))
    · have hor : n = 247 ∨ n = 248 ∨ n = 249 ∨ n = 250 ∨ n = 251 ∨ n = 252 := by omega
      clear hn hx8
      rcases hor with rfl | rfl | rfl | rfl | rfl | rfl
      · have hs9' := hs9.trans (show _ = Value.int .i64 7 from rfl)
        clear hs9; obtain rfl := hs9'
        obtain ⟨f1', f2'⟩ := blk hf
        have hbit : Hid (bitOf 232 247 = true) := Hid_mk (by decide)
        go_wp2_with (go_at_call 45; refine (hp.out.sq 247 _).mono ?_; rintro e w2 ⟨rfl, hb2⟩; have y0 := Mix.low_heap hb2 ha; have y1 := Mix.low_heap hb2 hf; have yo := Mix.low_heap hb2 ho; obtain ⟨y2, y3⟩ := blk y0; obtain ⟨y4, y5⟩ := blk y1)
        go_wp2_with (go_at_call 10; refine (hp.out.yes 247 hbit.out _).mono ?_; rintro e w3 ⟨rfl, hb3⟩; have q0 := Mix.low_heap hb3 ((set5_ne _ _ _ _ _ (by omega)).trans y0); have q1 := Mix.low_heap hb3 (set5 _ _ _ _ _ y1); have qo := Mix.low_heap hb3 ((set5_ne _ _ _ _ _ (by omega)).trans yo); obtain ⟨q2, q3⟩ := blk q1)
        go_roundg (252 - (248))
        case measure => omega
        case rel =>
          refine ⟨248, by omega, rfl, rfl, ?_, hsz, (set5_ne _ _ _ _ _ (by omega)).trans q0, (set5_ne _ _ _ _ _ (by omega)).trans qo, set5 _ _ _ _ _ q1⟩
          go_grown
          have := hb2.size
          refine Below.trans ?_ (hb3.mono (by simp; omega))
          go_grown
          exact Below.trans hlow' (hb2.mono (by omega))
      · have hs9' := hs9.trans (show _ = Value.int .i64 6 from rfl)
        clear hs9; obtain rfl := hs9'
        obtain ⟨f1', f2'⟩ := blk hf
        have hbit : Hid (bitOf 232 248 = true) := Hid_mk (by decide)
        go_wp2_with (go_at_call 45; refine (hp.out.sq 248 _).mono ?_; rintro e w2 ⟨rfl, hb2⟩; have y0 := Mix.low_heap hb2 ha; have y1 := Mix.low_heap hb2 hf; have yo := Mix.low_heap hb2 ho; obtain ⟨y2, y3⟩ := blk y0; obtain ⟨y4, y5⟩ := blk y1)
        go_wp2_with (go_at_call 10; refine (hp.out.yes 248 hbit.out _).mono ?_; rintro e w3 ⟨rfl, hb3⟩; have q0 := Mix.low_heap hb3 ((set5_ne _ _ _ _ _ (by omega)).trans y0); have q1 := Mix.low_heap hb3 (set5 _ _ _ _ _ y1); have qo := Mix.low_heap hb3 ((set5_ne _ _ _ _ _ (by omega)).trans yo); obtain ⟨q2, q3⟩ := blk q1)
        go_roundg (252 - (249))
        case measure => omega
        case rel =>
          refine ⟨249, by omega, rfl, rfl, ?_, hsz, (set5_ne _ _ _ _ _ (by omega)).trans q0, (set5_ne _ _ _ _ _ (by omega)).trans qo, set5 _ _ _ _ _ q1⟩
          go_grown
          have := hb2.size
          refine Below.trans ?_ (hb3.mono (by simp; omega))
          go_grown
          exact Below.trans hlow' (hb2.mono (by omega))
      · have hs9' := hs9.trans (show _ = Value.int .i64 5 from rfl)
        clear hs9; obtain rfl := hs9'
        obtain ⟨f1', f2'⟩ := blk hf
        have hbit : Hid (bitOf 232 249 = true) := Hid_mk (by decide)
        go_wp2_with (go_at_call 45; refine (hp.out.sq 249 _).mono ?_; rintro e w2 ⟨rfl, hb2⟩; have y0 := Mix.low_heap hb2 ha; have y1 := Mix.low_heap hb2 hf; have yo := Mix.low_heap hb2 ho; obtain ⟨y2, y3⟩ := blk y0; obtain ⟨y4, y5⟩ := blk y1)
        go_wp2_with (go_at_call 10; refine (hp.out.yes 249 hbit.out _).mono ?_; rintro e w3 ⟨rfl, hb3⟩; have q0 := Mix.low_heap hb3 ((set5_ne _ _ _ _ _ (by omega)).trans y0); have q1 := Mix.low_heap hb3 (set5 _ _ _ _ _ y1); have qo := Mix.low_heap hb3 ((set5_ne _ _ _ _ _ (by omega)).trans yo); obtain ⟨q2, q3⟩ := blk q1)
        go_roundg (252 - (250))
        case measure => omega
        case rel =>
          refine ⟨250, by omega, rfl, rfl, ?_, hsz, (set5_ne _ _ _ _ _ (by omega)).trans q0, (set5_ne _ _ _ _ _ (by omega)).trans qo, set5 _ _ _ _ _ q1⟩
          go_grown
          have := hb2.size
          refine Below.trans ?_ (hb3.mono (by simp; omega))
          go_grown
          exact Below.trans hlow' (hb2.mono (by omega))
      · have hs9' := hs9.trans (show _ = Value.int .i64 4 from rfl)
        clear hs9; obtain rfl := hs9'
        obtain ⟨f1', f2'⟩ := blk hf
        have hbit : Hid (bitOf 232 250 = false) := Hid_mk (by decide)
        have hno := Hid_mk (hp.out.no 250 hbit.out)
        go_wp2_with (go_at_call 45; refine (hp.out.sq 250 _).mono ?_; rintro e w2 ⟨rfl, hb2⟩; have y0 := Mix.low_heap hb2 ha; have y1 := Mix.low_heap hb2 hf; have yo := Mix.low_heap hb2 ho; obtain ⟨y2, y3⟩ := blk y0; obtain ⟨y4, y5⟩ := blk y1)
        go_roundg (252 - (251))
        case measure => omega
        case rel =>
          refine ⟨251, by omega, rfl, rfl, ?_, hsz, (set5_ne _ _ _ _ _ (by omega)).trans y0, (set5_ne _ _ _ _ _ (by omega)).trans yo, ?_⟩
          · go_grown
            exact Below.trans hlow' (hb2.mono (by omega))
          · have hq := set5 (.int .u64 (s 250).l0) (.int .u64 (s 250).l1) (.int .u64 (s 250).l2) (.int .u64 (s 250).l3) (.int .u64 (s 250).l4) y1
            rw [← show s 250 = f (251) from hno.out]; exact hq
      · have hs9' := hs9.trans (show _ = Value.int .i64 3 from rfl)
        clear hs9; obtain rfl := hs9'
        obtain ⟨f1', f2'⟩ := blk hf
        have hbit : Hid (bitOf 232 251 = true) := Hid_mk (by decide)
        go_wp2_with (go_at_call 45; refine (hp.out.sq 251 _).mono ?_; rintro e w2 ⟨rfl, hb2⟩; have y0 := Mix.low_heap hb2 ha; have y1 := Mix.low_heap hb2 hf; have yo := Mix.low_heap hb2 ho; obtain ⟨y2, y3⟩ := blk y0; obtain ⟨y4, y5⟩ := blk y1)
        go_wp2_with (go_at_call 10; refine (hp.out.yes 251 hbit.out _).mono ?_; rintro e w3 ⟨rfl, hb3⟩; have q0 := Mix.low_heap hb3 ((set5_ne _ _ _ _ _ (by omega)).trans y0); have q1 := Mix.low_heap hb3 (set5 _ _ _ _ _ y1); have qo := Mix.low_heap hb3 ((set5_ne _ _ _ _ _ (by omega)).trans yo); obtain ⟨q2, q3⟩ := blk q1)
        go_roundg (252 - (252))
        case measure => omega
        case rel =>
          refine ⟨252, by omega, rfl, rfl, ?_, hsz, (set5_ne _ _ _ _ _ (by omega)).trans q0, (set5_ne _ _ _ _ _ (by omega)).trans qo, set5 _ _ _ _ _ q1⟩
          go_grown
          have := hb2.size
          refine Below.trans ?_ (hb3.mono (by simp; omega))
          go_grown
          exact Below.trans hlow' (hb2.mono (by omega))
      · have hs9' := hs9.trans (show _ = Value.int .i64 2 from rfl)
        clear hs9; obtain rfl := hs9'
        obtain ⟨f1', f2'⟩ := blk hf
        go_wp2
        refine bodyPost_ret (by simp [results, Tryd.results27, go_sem, o1']; rfl) rfl ?_
        refine ⟨rfl, ?_⟩
        go_grown

end Go.Proofs.YtbonnnakebfniaaDoor
