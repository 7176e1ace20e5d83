/- sha2, 64 bits: what its functions reckon. -/
import Derived.Test.YtbonnnakebfniaaDoorSh
import Derived.Test.YtbonnnakebfniaaDoorWp
namespace Go.Proofs.YtbonnnakebfniaaDoor
open Go Go.RowKit Mx

def rotr64 (x : Int) (n : Nat) : Int := iOr .u64 (iShl .u64 x (64 - n)) (iShr .u64 x n)
def cut64 (x : Int) : Int := iShr .u64 (iShl .u64 x 0) 0
def word64 (x : Int) : Int := iShr .u64 x 0
def large64 (x : Int) (a b c : Nat) : Int := iXor .u64 (iXor .u64 (rotr64 x a) (rotr64 x b)) (rotr64 x c)
def small64 (x : Int) (a b c : Nat) : Int := iXor .u64 (iXor .u64 (rotr64 x a) (rotr64 x b)) (iShr .u64 x c)

/-- The words of a block: round t, byte i. -/
def schIn (s : ByteArray) (t : Nat) (g : Nat → Int) : Nat → Nat → Int
  | 0 => g
  | i + 1 => upd (schIn s t g i) t (iOr .u64 (iShl .u64 (schIn s t g i t) 8) (iCut .u64 (sByte s (t * 8 + i))))
def schNext (g : Nat → Int) (t : Nat) : Int :=
  cut64 (iAdd .u64 (iAdd .u64 (iAdd .u64 (small64 (g (t - 2)) 19 61 6) (g (t - 7))) (small64 (g (t - 15)) 1 8 7)) (g (t - 16)))
def schS (s : ByteArray) : Nat → Nat → Int
  | 0 => fun _ => 0
  | t + 1 => if t < 16 then schIn s t (schS s t) 8 else upd (schS s t) t (schNext (schS s t) t)
theorem schS_lt {s : ByteArray} {t : Nat} (h : t < 16) : schS s (t + 1) = schIn s t (schS s t) 8 := if_pos h
theorem schS_ge {s : ByteArray} {t : Nat} (h : ¬ t < 16) : schS s (t + 1) = upd (schS s t) t (schNext (schS s t) t) := if_neg h

def mixOne (g1 x w : Nat → Int) (t : Nat) : Int :=
  iAdd .u64 (iAdd .u64 (iAdd .u64 (iAdd .u64 (x 7) (large64 (x 4) 14 18 41)) (iXor .u64 (iAnd .u64 (x 4) (x 5)) (iAnd .u64 (iXor .u64 18446744073709551615 (x 4)) (x 6)))) (word64 (g1 t))) (w t)
def mixTwo (x : Nat → Int) : Int :=
  iAdd .u64 (large64 (x 0) 28 34 39) (iXor .u64 (iXor .u64 (iAnd .u64 (x 0) (x 1)) (iAnd .u64 (x 0) (x 2))) (iAnd .u64 (x 1) (x 2)))
def shiftX (x : Nat → Int) : Nat → Int := fun i => if i = 0 then x 0 else if i < 8 then x (i - 1) else x i
def mixX (g1 w : Nat → Int) (f : Nat → Int) : Nat → Nat → Int
  | 0 => f
  | t + 1 => upd (upd (shiftX (mixX g1 w f t)) 4 (cut64 (iAdd .u64 (shiftX (mixX g1 w f t) 4) (mixOne g1 (mixX g1 w f t) w t)))) 0 (cut64 (iAdd .u64 (mixOne g1 (mixX g1 w f t) w t) (mixTwo (mixX g1 w f t))))
def mixH (f x : Nat → Int) : Nat → Nat → Int
  | 0 => f
  | i + 1 => upd (mixH f x i) i (cut64 (iAdd .u64 (mixH f x i i) (x i)))
/-- A block goes into the words. -/
def mix64 (g1 f : Nat → Int) (s : ByteArray) : Nat → Int := mixH f (mixX g1 (schS s 80) f 80) 8

theorem shift_arr (f : Nat → Int) : (arr .u64 8 f).toList.take 1 ++ ((arr .u64 8 f).toList.drop 0).take 7 ++ (arr .u64 8 f).toList.drop (1 + 7) = (arr .u64 8 (shiftX f)).toList := by rfl

end Go.Proofs.YtbonnnakebfniaaDoor

/- sha2: turns, cuts. -/
namespace Go.Proofs.YtbonnnakebfniaaDoor
open Go Go.RowKit Num Mx

abbrev kind512V : Value := .agg #[.int .i64 64, .int .i64 80, .int .i64 1, .int .i64 8, .int .i64 7, .int .i64 19, .int .i64 61, .int .i64 6, .int .i64 28, .int .i64 34, .int .i64 39, .int .i64 14, .int .i64 18, .int .i64 41]


theorem sz41 : (Tryd.prog.info? 41).map (·.size) = some 14 := by kernel_rfl

set_option maxHeartbeats 1000000 in
set_option maxRecDepth 100000 in
theorem kind512_E  : Pure 16 #[] kind512V := fun w0 => by
  refine enter Tryd.func16 rfl Tryd.ntmps16 (Nat.le_of_ble_eq_true rfl) fun A hn hdf => ?_
  have hM : Mem w0 [] w0 [] := Mem.start w0
  replace hM := hM
  refine wp_seq ?_
  refine wp_region_lit ?_
  refine T_alloc 0 hn hM rfl rfl rfl rfl Tryd.zeroValue41 #[(.int .i64 0), (.int .i64 0), (.int .i64 0), (.int .i64 0), (.int .i64 0), (.int .i64 0), (.int .i64 0), (.int .i64 0), (.int .i64 0), (.int .i64 0), (.int .i64 0), (.int .i64 0), (.int .i64 0), (.int .i64 0)] rfl (fun b0 w hM => ?_)
  refine T_nil ?_
  refine wp_seq ?_
  refine wp_region_lit ?_
  refine T_val 1 hn hM rfl rfl rfl (v := (.agg #[(.int .i64 1), (.int .i64 8), (.int .i64 7)])) (g_build rfl (by kernel_rfl)) ?_
  refine T_val 2 hn hM rfl rfl rfl (v := (.agg #[(.int .i64 19), (.int .i64 61), (.int .i64 6)])) (g_build rfl (by kernel_rfl)) ?_
  refine T_val 3 hn hM rfl rfl rfl (v := (.agg #[(.int .i64 28), (.int .i64 34), (.int .i64 39)])) (g_build rfl (by kernel_rfl)) ?_
  refine T_val 4 hn hM rfl rfl rfl (v := (.agg #[(.int .i64 14), (.int .i64 18), (.int .i64 41)])) (g_build rfl (by kernel_rfl)) ?_
  refine T_val 5 hn hM rfl rfl rfl (v := (.agg #[(.int .i64 64), (.int .i64 80), (.int .i64 1), (.int .i64 8), (.int .i64 7), (.int .i64 19), (.int .i64 61), (.int .i64 6), (.int .i64 28), (.int .i64 34), (.int .i64 39), (.int .i64 14), (.int .i64 18), (.int .i64 41)])) (g_build rfl (by kernel_rfl)) ?_
  refine T_store 0 hn hM rfl rfl rfl rfl rfl rfl rfl (c' := #[(.int .i64 64), (.int .i64 80), (.int .i64 1), (.int .i64 8), (.int .i64 7), (.int .i64 19), (.int .i64 61), (.int .i64 6), (.int .i64 28), (.int .i64 34), (.int .i64 39), (.int .i64 14), (.int .i64 18), (.int .i64 41)]) (sets_row sz41 rfl rfl rfl) (fun w hM => ?_)
  replace hM : Mem _ _ w [⟨b0, #[(.int .i64 64), (.int .i64 80), (.int .i64 1), (.int .i64 8), (.int .i64 7), (.int .i64 19), (.int .i64 61), (.int .i64 6), (.int .i64 28), (.int .i64 34), (.int .i64 39), (.int .i64 14), (.int .i64 18), (.int .i64 41)], 41, true⟩] := hM
  refine T_nil ?_
  refine wp_ret ?_
  refine leave (.inl rfl) hn hdf hM rfl Tryd.results16 (vs := [(.agg #[(.int .i64 64), (.int .i64 80), (.int .i64 1), (.int .i64 8), (.int .i64 7), (.int .i64 19), (.int .i64 61), (.int .i64 6), (.int .i64 28), (.int .i64 34), (.int .i64 39), (.int .i64 14), (.int .i64 18), (.int .i64 41)])]) (.row 0 rfl rfl Tryd.underlying41 rfl sz41 .nil) ?_
  exact ⟨rfl, hM.done⟩


set_option maxHeartbeats 1000000 in
set_option maxRecDepth 100000 in
theorem rot64_1 (x : Int) : Pure 67 #[(.int .u64 x), (.int .i64 (-1))] (.int .u64 (rotr64 x 1)) := fun w0 => by
  refine enter Tryd.func67 rfl Tryd.ntmps67 (Nat.le_of_ble_eq_true rfl) fun A hn hdf => ?_
  have hM : Mem w0 [] w0 [] := Mem.start w0
  replace hM := hM
  refine wp_seq ?_
  refine wp_region_lit ?_
  refine T_val 4 hn hM rfl rfl rfl (v := (.int .u64 0)) (g_assign rfl rfl) ?_
  refine T_nil ?_
  refine wp_seq ?_
  refine wp_region_lit ?_
  refine T_val 6 hn hM rfl rfl rfl (v := (.int .i64 (-1))) (g_move rfl rfl) ?_
  refine T_val 7 hn hM rfl rfl rfl (v := (.int .u64 18446744073709551615)) (g_convInt rfl rfl Tryd.underlying3 Tryd.underlying56 (by decide)) ?_
  refine T_val 8 hn hM rfl rfl rfl (v := (.int .u64 63)) (g_int rfl rfl rfl rfl (by kernel_rfl)) ?_
  refine T_val 5 hn hM rfl rfl rfl (v := (.int .u64 63)) (g_assign rfl rfl) ?_
  refine T_nil ?_
  refine wp_seq ?_
  refine wp_region_lit ?_
  refine T_val 9 hn hM rfl rfl rfl (v := (.int .u64 x)) (g_move rfl rfl) ?_
  refine T_val 10 hn hM rfl rfl rfl (v := (.int .u64 63)) (g_move rfl rfl) ?_
  refine T_val 11 hn hM rfl rfl rfl (v := (.int .u64 (iShl .u64 x 63))) (g_shl (n := 63) rfl rfl rfl rfl) ?_
  refine T_val 12 hn hM rfl rfl rfl (v := (.int .u64 x)) (g_move rfl rfl) ?_
  refine T_val 13 hn hM rfl rfl rfl (v := (.int .u64 63)) (g_move rfl rfl) ?_
  refine T_val 14 hn hM rfl rfl rfl (v := (.int .u64 1)) (g_int rfl rfl rfl rfl rfl) ?_
  refine T_val 15 hn hM rfl rfl rfl (v := (.int .u64 (iShr .u64 x 1))) (g_shr (n := 1) rfl rfl rfl rfl) ?_
  refine T_val 16 hn hM rfl rfl rfl (v := (.int .u64 (iOr .u64 (iShl .u64 x 63) (iShr .u64 x 1)))) (g_int rfl rfl rfl rfl rfl) ?_
  refine T_val 4 hn hM rfl rfl rfl (v := (.int .u64 (iOr .u64 (iShl .u64 x 63) (iShr .u64 x 1)))) (g_assign rfl rfl) ?_
  refine T_nil ?_
  refine wp_ret ?_
  refine leave (.inl rfl) hn hdf hM rfl Tryd.results67 (vs := [(.int .u64 (iOr .u64 (iShl .u64 x 63) (iShr .u64 x 1)))]) (.tmp 4 rfl .nil) ?_
  exact ⟨rfl, hM.done⟩


set_option maxHeartbeats 1000000 in
set_option maxRecDepth 100000 in
theorem rot64_8 (x : Int) : Pure 67 #[(.int .u64 x), (.int .i64 (-8))] (.int .u64 (rotr64 x 8)) := fun w0 => by
  refine enter Tryd.func67 rfl Tryd.ntmps67 (Nat.le_of_ble_eq_true rfl) fun A hn hdf => ?_
  have hM : Mem w0 [] w0 [] := Mem.start w0
  replace hM := hM
  refine wp_seq ?_
  refine wp_region_lit ?_
  refine T_val 4 hn hM rfl rfl rfl (v := (.int .u64 0)) (g_assign rfl rfl) ?_
  refine T_nil ?_
  refine wp_seq ?_
  refine wp_region_lit ?_
  refine T_val 6 hn hM rfl rfl rfl (v := (.int .i64 (-8))) (g_move rfl rfl) ?_
  refine T_val 7 hn hM rfl rfl rfl (v := (.int .u64 18446744073709551608)) (g_convInt rfl rfl Tryd.underlying3 Tryd.underlying56 (by decide)) ?_
  refine T_val 8 hn hM rfl rfl rfl (v := (.int .u64 56)) (g_int rfl rfl rfl rfl (by kernel_rfl)) ?_
  refine T_val 5 hn hM rfl rfl rfl (v := (.int .u64 56)) (g_assign rfl rfl) ?_
  refine T_nil ?_
  refine wp_seq ?_
  refine wp_region_lit ?_
  refine T_val 9 hn hM rfl rfl rfl (v := (.int .u64 x)) (g_move rfl rfl) ?_
  refine T_val 10 hn hM rfl rfl rfl (v := (.int .u64 56)) (g_move rfl rfl) ?_
  refine T_val 11 hn hM rfl rfl rfl (v := (.int .u64 (iShl .u64 x 56))) (g_shl (n := 56) rfl rfl rfl rfl) ?_
  refine T_val 12 hn hM rfl rfl rfl (v := (.int .u64 x)) (g_move rfl rfl) ?_
  refine T_val 13 hn hM rfl rfl rfl (v := (.int .u64 56)) (g_move rfl rfl) ?_
  refine T_val 14 hn hM rfl rfl rfl (v := (.int .u64 8)) (g_int rfl rfl rfl rfl rfl) ?_
  refine T_val 15 hn hM rfl rfl rfl (v := (.int .u64 (iShr .u64 x 8))) (g_shr (n := 8) rfl rfl rfl rfl) ?_
  refine T_val 16 hn hM rfl rfl rfl (v := (.int .u64 (iOr .u64 (iShl .u64 x 56) (iShr .u64 x 8)))) (g_int rfl rfl rfl rfl rfl) ?_
  refine T_val 4 hn hM rfl rfl rfl (v := (.int .u64 (iOr .u64 (iShl .u64 x 56) (iShr .u64 x 8)))) (g_assign rfl rfl) ?_
  refine T_nil ?_
  refine wp_ret ?_
  refine leave (.inl rfl) hn hdf hM rfl Tryd.results67 (vs := [(.int .u64 (iOr .u64 (iShl .u64 x 56) (iShr .u64 x 8)))]) (.tmp 4 rfl .nil) ?_
  exact ⟨rfl, hM.done⟩


set_option maxHeartbeats 1000000 in
set_option maxRecDepth 100000 in
theorem rot64_19 (x : Int) : Pure 67 #[(.int .u64 x), (.int .i64 (-19))] (.int .u64 (rotr64 x 19)) := fun w0 => by
  refine enter Tryd.func67 rfl Tryd.ntmps67 (Nat.le_of_ble_eq_true rfl) fun A hn hdf => ?_
  have hM : Mem w0 [] w0 [] := Mem.start w0
  replace hM := hM
  refine wp_seq ?_
  refine wp_region_lit ?_
  refine T_val 4 hn hM rfl rfl rfl (v := (.int .u64 0)) (g_assign rfl rfl) ?_
  refine T_nil ?_
  refine wp_seq ?_
  refine wp_region_lit ?_
  refine T_val 6 hn hM rfl rfl rfl (v := (.int .i64 (-19))) (g_move rfl rfl) ?_
  refine T_val 7 hn hM rfl rfl rfl (v := (.int .u64 18446744073709551597)) (g_convInt rfl rfl Tryd.underlying3 Tryd.underlying56 (by decide)) ?_
  refine T_val 8 hn hM rfl rfl rfl (v := (.int .u64 45)) (g_int rfl rfl rfl rfl (by kernel_rfl)) ?_
  refine T_val 5 hn hM rfl rfl rfl (v := (.int .u64 45)) (g_assign rfl rfl) ?_
  refine T_nil ?_
  refine wp_seq ?_
  refine wp_region_lit ?_
  refine T_val 9 hn hM rfl rfl rfl (v := (.int .u64 x)) (g_move rfl rfl) ?_
  refine T_val 10 hn hM rfl rfl rfl (v := (.int .u64 45)) (g_move rfl rfl) ?_
  refine T_val 11 hn hM rfl rfl rfl (v := (.int .u64 (iShl .u64 x 45))) (g_shl (n := 45) rfl rfl rfl rfl) ?_
  refine T_val 12 hn hM rfl rfl rfl (v := (.int .u64 x)) (g_move rfl rfl) ?_
  refine T_val 13 hn hM rfl rfl rfl (v := (.int .u64 45)) (g_move rfl rfl) ?_
  refine T_val 14 hn hM rfl rfl rfl (v := (.int .u64 19)) (g_int rfl rfl rfl rfl rfl) ?_
  refine T_val 15 hn hM rfl rfl rfl (v := (.int .u64 (iShr .u64 x 19))) (g_shr (n := 19) rfl rfl rfl rfl) ?_
  refine T_val 16 hn hM rfl rfl rfl (v := (.int .u64 (iOr .u64 (iShl .u64 x 45) (iShr .u64 x 19)))) (g_int rfl rfl rfl rfl rfl) ?_
  refine T_val 4 hn hM rfl rfl rfl (v := (.int .u64 (iOr .u64 (iShl .u64 x 45) (iShr .u64 x 19)))) (g_assign rfl rfl) ?_
  refine T_nil ?_
  refine wp_ret ?_
  refine leave (.inl rfl) hn hdf hM rfl Tryd.results67 (vs := [(.int .u64 (iOr .u64 (iShl .u64 x 45) (iShr .u64 x 19)))]) (.tmp 4 rfl .nil) ?_
  exact ⟨rfl, hM.done⟩


set_option maxHeartbeats 1000000 in
set_option maxRecDepth 100000 in
theorem rot64_61 (x : Int) : Pure 67 #[(.int .u64 x), (.int .i64 (-61))] (.int .u64 (rotr64 x 61)) := fun w0 => by
  refine enter Tryd.func67 rfl Tryd.ntmps67 (Nat.le_of_ble_eq_true rfl) fun A hn hdf => ?_
  have hM : Mem w0 [] w0 [] := Mem.start w0
  replace hM := hM
  refine wp_seq ?_
  refine wp_region_lit ?_
  refine T_val 4 hn hM rfl rfl rfl (v := (.int .u64 0)) (g_assign rfl rfl) ?_
  refine T_nil ?_
  refine wp_seq ?_
  refine wp_region_lit ?_
  refine T_val 6 hn hM rfl rfl rfl (v := (.int .i64 (-61))) (g_move rfl rfl) ?_
  refine T_val 7 hn hM rfl rfl rfl (v := (.int .u64 18446744073709551555)) (g_convInt rfl rfl Tryd.underlying3 Tryd.underlying56 (by decide)) ?_
  refine T_val 8 hn hM rfl rfl rfl (v := (.int .u64 3)) (g_int rfl rfl rfl rfl (by kernel_rfl)) ?_
  refine T_val 5 hn hM rfl rfl rfl (v := (.int .u64 3)) (g_assign rfl rfl) ?_
  refine T_nil ?_
  refine wp_seq ?_
  refine wp_region_lit ?_
  refine T_val 9 hn hM rfl rfl rfl (v := (.int .u64 x)) (g_move rfl rfl) ?_
  refine T_val 10 hn hM rfl rfl rfl (v := (.int .u64 3)) (g_move rfl rfl) ?_
  refine T_val 11 hn hM rfl rfl rfl (v := (.int .u64 (iShl .u64 x 3))) (g_shl (n := 3) rfl rfl rfl rfl) ?_
  refine T_val 12 hn hM rfl rfl rfl (v := (.int .u64 x)) (g_move rfl rfl) ?_
  refine T_val 13 hn hM rfl rfl rfl (v := (.int .u64 3)) (g_move rfl rfl) ?_
  refine T_val 14 hn hM rfl rfl rfl (v := (.int .u64 61)) (g_int rfl rfl rfl rfl rfl) ?_
  refine T_val 15 hn hM rfl rfl rfl (v := (.int .u64 (iShr .u64 x 61))) (g_shr (n := 61) rfl rfl rfl rfl) ?_
  refine T_val 16 hn hM rfl rfl rfl (v := (.int .u64 (iOr .u64 (iShl .u64 x 3) (iShr .u64 x 61)))) (g_int rfl rfl rfl rfl rfl) ?_
  refine T_val 4 hn hM rfl rfl rfl (v := (.int .u64 (iOr .u64 (iShl .u64 x 3) (iShr .u64 x 61)))) (g_assign rfl rfl) ?_
  refine T_nil ?_
  refine wp_ret ?_
  refine leave (.inl rfl) hn hdf hM rfl Tryd.results67 (vs := [(.int .u64 (iOr .u64 (iShl .u64 x 3) (iShr .u64 x 61)))]) (.tmp 4 rfl .nil) ?_
  exact ⟨rfl, hM.done⟩


set_option maxHeartbeats 1000000 in
set_option maxRecDepth 100000 in
theorem rot64_28 (x : Int) : Pure 67 #[(.int .u64 x), (.int .i64 (-28))] (.int .u64 (rotr64 x 28)) := fun w0 => by
  refine enter Tryd.func67 rfl Tryd.ntmps67 (Nat.le_of_ble_eq_true rfl) fun A hn hdf => ?_
  have hM : Mem w0 [] w0 [] := Mem.start w0
  replace hM := hM
  refine wp_seq ?_
  refine wp_region_lit ?_
  refine T_val 4 hn hM rfl rfl rfl (v := (.int .u64 0)) (g_assign rfl rfl) ?_
  refine T_nil ?_
  refine wp_seq ?_
  refine wp_region_lit ?_
  refine T_val 6 hn hM rfl rfl rfl (v := (.int .i64 (-28))) (g_move rfl rfl) ?_
  refine T_val 7 hn hM rfl rfl rfl (v := (.int .u64 18446744073709551588)) (g_convInt rfl rfl Tryd.underlying3 Tryd.underlying56 (by decide)) ?_
  refine T_val 8 hn hM rfl rfl rfl (v := (.int .u64 36)) (g_int rfl rfl rfl rfl (by kernel_rfl)) ?_
  refine T_val 5 hn hM rfl rfl rfl (v := (.int .u64 36)) (g_assign rfl rfl) ?_
  refine T_nil ?_
  refine wp_seq ?_
  refine wp_region_lit ?_
  refine T_val 9 hn hM rfl rfl rfl (v := (.int .u64 x)) (g_move rfl rfl) ?_
  refine T_val 10 hn hM rfl rfl rfl (v := (.int .u64 36)) (g_move rfl rfl) ?_
  refine T_val 11 hn hM rfl rfl rfl (v := (.int .u64 (iShl .u64 x 36))) (g_shl (n := 36) rfl rfl rfl rfl) ?_
  refine T_val 12 hn hM rfl rfl rfl (v := (.int .u64 x)) (g_move rfl rfl) ?_
  refine T_val 13 hn hM rfl rfl rfl (v := (.int .u64 36)) (g_move rfl rfl) ?_
  refine T_val 14 hn hM rfl rfl rfl (v := (.int .u64 28)) (g_int rfl rfl rfl rfl rfl) ?_
  refine T_val 15 hn hM rfl rfl rfl (v := (.int .u64 (iShr .u64 x 28))) (g_shr (n := 28) rfl rfl rfl rfl) ?_
  refine T_val 16 hn hM rfl rfl rfl (v := (.int .u64 (iOr .u64 (iShl .u64 x 36) (iShr .u64 x 28)))) (g_int rfl rfl rfl rfl rfl) ?_
  refine T_val 4 hn hM rfl rfl rfl (v := (.int .u64 (iOr .u64 (iShl .u64 x 36) (iShr .u64 x 28)))) (g_assign rfl rfl) ?_
  refine T_nil ?_
  refine wp_ret ?_
  refine leave (.inl rfl) hn hdf hM rfl Tryd.results67 (vs := [(.int .u64 (iOr .u64 (iShl .u64 x 36) (iShr .u64 x 28)))]) (.tmp 4 rfl .nil) ?_
  exact ⟨rfl, hM.done⟩


set_option maxHeartbeats 1000000 in
set_option maxRecDepth 100000 in
theorem rot64_34 (x : Int) : Pure 67 #[(.int .u64 x), (.int .i64 (-34))] (.int .u64 (rotr64 x 34)) := fun w0 => by
  refine enter Tryd.func67 rfl Tryd.ntmps67 (Nat.le_of_ble_eq_true rfl) fun A hn hdf => ?_
  have hM : Mem w0 [] w0 [] := Mem.start w0
  replace hM := hM
  refine wp_seq ?_
  refine wp_region_lit ?_
  refine T_val 4 hn hM rfl rfl rfl (v := (.int .u64 0)) (g_assign rfl rfl) ?_
  refine T_nil ?_
  refine wp_seq ?_
  refine wp_region_lit ?_
  refine T_val 6 hn hM rfl rfl rfl (v := (.int .i64 (-34))) (g_move rfl rfl) ?_
  refine T_val 7 hn hM rfl rfl rfl (v := (.int .u64 18446744073709551582)) (g_convInt rfl rfl Tryd.underlying3 Tryd.underlying56 (by decide)) ?_
  refine T_val 8 hn hM rfl rfl rfl (v := (.int .u64 30)) (g_int rfl rfl rfl rfl (by kernel_rfl)) ?_
  refine T_val 5 hn hM rfl rfl rfl (v := (.int .u64 30)) (g_assign rfl rfl) ?_
  refine T_nil ?_
  refine wp_seq ?_
  refine wp_region_lit ?_
  refine T_val 9 hn hM rfl rfl rfl (v := (.int .u64 x)) (g_move rfl rfl) ?_
  refine T_val 10 hn hM rfl rfl rfl (v := (.int .u64 30)) (g_move rfl rfl) ?_
  refine T_val 11 hn hM rfl rfl rfl (v := (.int .u64 (iShl .u64 x 30))) (g_shl (n := 30) rfl rfl rfl rfl) ?_
  refine T_val 12 hn hM rfl rfl rfl (v := (.int .u64 x)) (g_move rfl rfl) ?_
  refine T_val 13 hn hM rfl rfl rfl (v := (.int .u64 30)) (g_move rfl rfl) ?_
  refine T_val 14 hn hM rfl rfl rfl (v := (.int .u64 34)) (g_int rfl rfl rfl rfl rfl) ?_
  refine T_val 15 hn hM rfl rfl rfl (v := (.int .u64 (iShr .u64 x 34))) (g_shr (n := 34) rfl rfl rfl rfl) ?_
  refine T_val 16 hn hM rfl rfl rfl (v := (.int .u64 (iOr .u64 (iShl .u64 x 30) (iShr .u64 x 34)))) (g_int rfl rfl rfl rfl rfl) ?_
  refine T_val 4 hn hM rfl rfl rfl (v := (.int .u64 (iOr .u64 (iShl .u64 x 30) (iShr .u64 x 34)))) (g_assign rfl rfl) ?_
  refine T_nil ?_
  refine wp_ret ?_
  refine leave (.inl rfl) hn hdf hM rfl Tryd.results67 (vs := [(.int .u64 (iOr .u64 (iShl .u64 x 30) (iShr .u64 x 34)))]) (.tmp 4 rfl .nil) ?_
  exact ⟨rfl, hM.done⟩


set_option maxHeartbeats 1000000 in
set_option maxRecDepth 100000 in
theorem rot64_39 (x : Int) : Pure 67 #[(.int .u64 x), (.int .i64 (-39))] (.int .u64 (rotr64 x 39)) := fun w0 => by
  refine enter Tryd.func67 rfl Tryd.ntmps67 (Nat.le_of_ble_eq_true rfl) fun A hn hdf => ?_
  have hM : Mem w0 [] w0 [] := Mem.start w0
  replace hM := hM
  refine wp_seq ?_
  refine wp_region_lit ?_
  refine T_val 4 hn hM rfl rfl rfl (v := (.int .u64 0)) (g_assign rfl rfl) ?_
  refine T_nil ?_
  refine wp_seq ?_
  refine wp_region_lit ?_
  refine T_val 6 hn hM rfl rfl rfl (v := (.int .i64 (-39))) (g_move rfl rfl) ?_
  refine T_val 7 hn hM rfl rfl rfl (v := (.int .u64 18446744073709551577)) (g_convInt rfl rfl Tryd.underlying3 Tryd.underlying56 (by decide)) ?_
  refine T_val 8 hn hM rfl rfl rfl (v := (.int .u64 25)) (g_int rfl rfl rfl rfl (by kernel_rfl)) ?_
  refine T_val 5 hn hM rfl rfl rfl (v := (.int .u64 25)) (g_assign rfl rfl) ?_
  refine T_nil ?_
  refine wp_seq ?_
  refine wp_region_lit ?_
  refine T_val 9 hn hM rfl rfl rfl (v := (.int .u64 x)) (g_move rfl rfl) ?_
  refine T_val 10 hn hM rfl rfl rfl (v := (.int .u64 25)) (g_move rfl rfl) ?_
  refine T_val 11 hn hM rfl rfl rfl (v := (.int .u64 (iShl .u64 x 25))) (g_shl (n := 25) rfl rfl rfl rfl) ?_
  refine T_val 12 hn hM rfl rfl rfl (v := (.int .u64 x)) (g_move rfl rfl) ?_
  refine T_val 13 hn hM rfl rfl rfl (v := (.int .u64 25)) (g_move rfl rfl) ?_
  refine T_val 14 hn hM rfl rfl rfl (v := (.int .u64 39)) (g_int rfl rfl rfl rfl rfl) ?_
  refine T_val 15 hn hM rfl rfl rfl (v := (.int .u64 (iShr .u64 x 39))) (g_shr (n := 39) rfl rfl rfl rfl) ?_
  refine T_val 16 hn hM rfl rfl rfl (v := (.int .u64 (iOr .u64 (iShl .u64 x 25) (iShr .u64 x 39)))) (g_int rfl rfl rfl rfl rfl) ?_
  refine T_val 4 hn hM rfl rfl rfl (v := (.int .u64 (iOr .u64 (iShl .u64 x 25) (iShr .u64 x 39)))) (g_assign rfl rfl) ?_
  refine T_nil ?_
  refine wp_ret ?_
  refine leave (.inl rfl) hn hdf hM rfl Tryd.results67 (vs := [(.int .u64 (iOr .u64 (iShl .u64 x 25) (iShr .u64 x 39)))]) (.tmp 4 rfl .nil) ?_
  exact ⟨rfl, hM.done⟩


set_option maxHeartbeats 1000000 in
set_option maxRecDepth 100000 in
theorem rot64_14 (x : Int) : Pure 67 #[(.int .u64 x), (.int .i64 (-14))] (.int .u64 (rotr64 x 14)) := fun w0 => by
  refine enter Tryd.func67 rfl Tryd.ntmps67 (Nat.le_of_ble_eq_true rfl) fun A hn hdf => ?_
  have hM : Mem w0 [] w0 [] := Mem.start w0
  replace hM := hM
  refine wp_seq ?_
  refine wp_region_lit ?_
  refine T_val 4 hn hM rfl rfl rfl (v := (.int .u64 0)) (g_assign rfl rfl) ?_
  refine T_nil ?_
  refine wp_seq ?_
  refine wp_region_lit ?_
  refine T_val 6 hn hM rfl rfl rfl (v := (.int .i64 (-14))) (g_move rfl rfl) ?_
  refine T_val 7 hn hM rfl rfl rfl (v := (.int .u64 18446744073709551602)) (g_convInt rfl rfl Tryd.underlying3 Tryd.underlying56 (by decide)) ?_
  refine T_val 8 hn hM rfl rfl rfl (v := (.int .u64 50)) (g_int rfl rfl rfl rfl (by kernel_rfl)) ?_
  refine T_val 5 hn hM rfl rfl rfl (v := (.int .u64 50)) (g_assign rfl rfl) ?_
  refine T_nil ?_
  refine wp_seq ?_
  refine wp_region_lit ?_
  refine T_val 9 hn hM rfl rfl rfl (v := (.int .u64 x)) (g_move rfl rfl) ?_
  refine T_val 10 hn hM rfl rfl rfl (v := (.int .u64 50)) (g_move rfl rfl) ?_
  refine T_val 11 hn hM rfl rfl rfl (v := (.int .u64 (iShl .u64 x 50))) (g_shl (n := 50) rfl rfl rfl rfl) ?_
  refine T_val 12 hn hM rfl rfl rfl (v := (.int .u64 x)) (g_move rfl rfl) ?_
  refine T_val 13 hn hM rfl rfl rfl (v := (.int .u64 50)) (g_move rfl rfl) ?_
  refine T_val 14 hn hM rfl rfl rfl (v := (.int .u64 14)) (g_int rfl rfl rfl rfl rfl) ?_
  refine T_val 15 hn hM rfl rfl rfl (v := (.int .u64 (iShr .u64 x 14))) (g_shr (n := 14) rfl rfl rfl rfl) ?_
  refine T_val 16 hn hM rfl rfl rfl (v := (.int .u64 (iOr .u64 (iShl .u64 x 50) (iShr .u64 x 14)))) (g_int rfl rfl rfl rfl rfl) ?_
  refine T_val 4 hn hM rfl rfl rfl (v := (.int .u64 (iOr .u64 (iShl .u64 x 50) (iShr .u64 x 14)))) (g_assign rfl rfl) ?_
  refine T_nil ?_
  refine wp_ret ?_
  refine leave (.inl rfl) hn hdf hM rfl Tryd.results67 (vs := [(.int .u64 (iOr .u64 (iShl .u64 x 50) (iShr .u64 x 14)))]) (.tmp 4 rfl .nil) ?_
  exact ⟨rfl, hM.done⟩


set_option maxHeartbeats 1000000 in
set_option maxRecDepth 100000 in
theorem rot64_18 (x : Int) : Pure 67 #[(.int .u64 x), (.int .i64 (-18))] (.int .u64 (rotr64 x 18)) := fun w0 => by
  refine enter Tryd.func67 rfl Tryd.ntmps67 (Nat.le_of_ble_eq_true rfl) fun A hn hdf => ?_
  have hM : Mem w0 [] w0 [] := Mem.start w0
  replace hM := hM
  refine wp_seq ?_
  refine wp_region_lit ?_
  refine T_val 4 hn hM rfl rfl rfl (v := (.int .u64 0)) (g_assign rfl rfl) ?_
  refine T_nil ?_
  refine wp_seq ?_
  refine wp_region_lit ?_
  refine T_val 6 hn hM rfl rfl rfl (v := (.int .i64 (-18))) (g_move rfl rfl) ?_
  refine T_val 7 hn hM rfl rfl rfl (v := (.int .u64 18446744073709551598)) (g_convInt rfl rfl Tryd.underlying3 Tryd.underlying56 (by decide)) ?_
  refine T_val 8 hn hM rfl rfl rfl (v := (.int .u64 46)) (g_int rfl rfl rfl rfl (by kernel_rfl)) ?_
  refine T_val 5 hn hM rfl rfl rfl (v := (.int .u64 46)) (g_assign rfl rfl) ?_
  refine T_nil ?_
  refine wp_seq ?_
  refine wp_region_lit ?_
  refine T_val 9 hn hM rfl rfl rfl (v := (.int .u64 x)) (g_move rfl rfl) ?_
  refine T_val 10 hn hM rfl rfl rfl (v := (.int .u64 46)) (g_move rfl rfl) ?_
  refine T_val 11 hn hM rfl rfl rfl (v := (.int .u64 (iShl .u64 x 46))) (g_shl (n := 46) rfl rfl rfl rfl) ?_
  refine T_val 12 hn hM rfl rfl rfl (v := (.int .u64 x)) (g_move rfl rfl) ?_
  refine T_val 13 hn hM rfl rfl rfl (v := (.int .u64 46)) (g_move rfl rfl) ?_
  refine T_val 14 hn hM rfl rfl rfl (v := (.int .u64 18)) (g_int rfl rfl rfl rfl rfl) ?_
  refine T_val 15 hn hM rfl rfl rfl (v := (.int .u64 (iShr .u64 x 18))) (g_shr (n := 18) rfl rfl rfl rfl) ?_
  refine T_val 16 hn hM rfl rfl rfl (v := (.int .u64 (iOr .u64 (iShl .u64 x 46) (iShr .u64 x 18)))) (g_int rfl rfl rfl rfl rfl) ?_
  refine T_val 4 hn hM rfl rfl rfl (v := (.int .u64 (iOr .u64 (iShl .u64 x 46) (iShr .u64 x 18)))) (g_assign rfl rfl) ?_
  refine T_nil ?_
  refine wp_ret ?_
  refine leave (.inl rfl) hn hdf hM rfl Tryd.results67 (vs := [(.int .u64 (iOr .u64 (iShl .u64 x 46) (iShr .u64 x 18)))]) (.tmp 4 rfl .nil) ?_
  exact ⟨rfl, hM.done⟩


set_option maxHeartbeats 1000000 in
set_option maxRecDepth 100000 in
theorem rot64_41 (x : Int) : Pure 67 #[(.int .u64 x), (.int .i64 (-41))] (.int .u64 (rotr64 x 41)) := fun w0 => by
  refine enter Tryd.func67 rfl Tryd.ntmps67 (Nat.le_of_ble_eq_true rfl) fun A hn hdf => ?_
  have hM : Mem w0 [] w0 [] := Mem.start w0
  replace hM := hM
  refine wp_seq ?_
  refine wp_region_lit ?_
  refine T_val 4 hn hM rfl rfl rfl (v := (.int .u64 0)) (g_assign rfl rfl) ?_
  refine T_nil ?_
  refine wp_seq ?_
  refine wp_region_lit ?_
  refine T_val 6 hn hM rfl rfl rfl (v := (.int .i64 (-41))) (g_move rfl rfl) ?_
  refine T_val 7 hn hM rfl rfl rfl (v := (.int .u64 18446744073709551575)) (g_convInt rfl rfl Tryd.underlying3 Tryd.underlying56 (by decide)) ?_
  refine T_val 8 hn hM rfl rfl rfl (v := (.int .u64 23)) (g_int rfl rfl rfl rfl (by kernel_rfl)) ?_
  refine T_val 5 hn hM rfl rfl rfl (v := (.int .u64 23)) (g_assign rfl rfl) ?_
  refine T_nil ?_
  refine wp_seq ?_
  refine wp_region_lit ?_
  refine T_val 9 hn hM rfl rfl rfl (v := (.int .u64 x)) (g_move rfl rfl) ?_
  refine T_val 10 hn hM rfl rfl rfl (v := (.int .u64 23)) (g_move rfl rfl) ?_
  refine T_val 11 hn hM rfl rfl rfl (v := (.int .u64 (iShl .u64 x 23))) (g_shl (n := 23) rfl rfl rfl rfl) ?_
  refine T_val 12 hn hM rfl rfl rfl (v := (.int .u64 x)) (g_move rfl rfl) ?_
  refine T_val 13 hn hM rfl rfl rfl (v := (.int .u64 23)) (g_move rfl rfl) ?_
  refine T_val 14 hn hM rfl rfl rfl (v := (.int .u64 41)) (g_int rfl rfl rfl rfl rfl) ?_
  refine T_val 15 hn hM rfl rfl rfl (v := (.int .u64 (iShr .u64 x 41))) (g_shr (n := 41) rfl rfl rfl rfl) ?_
  refine T_val 16 hn hM rfl rfl rfl (v := (.int .u64 (iOr .u64 (iShl .u64 x 23) (iShr .u64 x 41)))) (g_int rfl rfl rfl rfl rfl) ?_
  refine T_val 4 hn hM rfl rfl rfl (v := (.int .u64 (iOr .u64 (iShl .u64 x 23) (iShr .u64 x 41)))) (g_assign rfl rfl) ?_
  refine T_nil ?_
  refine wp_ret ?_
  refine leave (.inl rfl) hn hdf hM rfl Tryd.results67 (vs := [(.int .u64 (iOr .u64 (iShl .u64 x 23) (iShr .u64 x 41)))]) (.tmp 4 rfl .nil) ?_
  exact ⟨rfl, hM.done⟩

theorem nm67 : (Tryd.f67.name == "runtime.NumGoroutine") = false := by kernel_rfl
theorem bd67 : Tryd.f67.body.isNone = false := by kernel_rfl

set_option maxHeartbeats 1000000 in
set_option maxRecDepth 100000 in
theorem turn64_1 (x : Int) : Pure 62 #[kind512V, (.int .u64 x), (.int .i64 1)] (.int .u64 (rotr64 x 1)) := fun w0 => by
  refine enter Tryd.func62 rfl Tryd.ntmps62 (Nat.le_of_ble_eq_true rfl) fun A hn hdf => ?_
  have hM : Mem w0 [] w0 [] := Mem.start w0
  replace hM := hM
  refine wp_seq ?_
  refine wp_region_lit ?_
  refine T_box 3 hn hM rfl rfl rfl rfl rfl #[(.int .i64 64), (.int .i64 80), (.int .i64 1), (.int .i64 8), (.int .i64 7), (.int .i64 19), (.int .i64 61), (.int .i64 6), (.int .i64 28), (.int .i64 34), (.int .i64 39), (.int .i64 14), (.int .i64 18), (.int .i64 41)] rfl (fun b0 w hM => ?_)
  refine T_val 6 hn hM rfl rfl rfl (v := (.int .u64 0)) (g_assign rfl rfl) ?_
  refine T_nil ?_
  refine wp_seq ?_
  refine wp_seq ?_
  refine wp_region_lit ?_
  refine T_val 7 hn hM rfl rfl rfl (v := (.pointer (some ⟨b0, 0, none⟩))) (g_fieldAddr rfl rfl Tryd.underlying41 rfl Tryd.sizeOf3 0 rfl) ?_
  refine T_val 8 hn hM rfl rfl rfl (v := (.int .i64 64)) (g_loadOne 0 rfl rfl rfl Tryd.underlying3 rfl rfl) ?_
  refine T_val 9 hn hM rfl rfl rfl (v := (.bool false)) (g_int rfl rfl rfl rfl rfl) ?_
  refine T_nil ?_
  refine C_condF hn rfl rfl ?_
  refine wp_skip ?_
  refine x_next ?_
  refine wp_seq ?_
  refine wp_region_lit ?_
  refine T_val 16 hn hM rfl rfl rfl (v := (.int .u64 x)) (g_move rfl rfl) ?_
  refine T_val 17 hn hM rfl rfl rfl (v := (.int .i64 1)) (g_move rfl rfl) ?_
  refine T_val 18 hn hM rfl rfl rfl (v := (.int .i64 (-1))) (g_unOp rfl rfl (fun w => rfl)) ?_
  refine T_call 19 hn hM rfl rfl rfl (v := (.int .u64 (rotr64 x 1))) (g_call (rot64_1 x) rfl rfl rfl Tryd.func67 nm67 bd67) (fun w hM => ?_)
  refine T_val 6 hn hM rfl rfl rfl (v := (.int .u64 (rotr64 x 1))) (g_assign rfl rfl) ?_
  refine T_nil ?_
  refine wp_ret ?_
  refine leave (.inl rfl) hn hdf hM rfl Tryd.results62 (vs := [(.int .u64 (rotr64 x 1))]) (.tmp 6 rfl .nil) ?_
  exact ⟨rfl, hM.done⟩


set_option maxHeartbeats 1000000 in
set_option maxRecDepth 100000 in
theorem turn64_8 (x : Int) : Pure 62 #[kind512V, (.int .u64 x), (.int .i64 8)] (.int .u64 (rotr64 x 8)) := fun w0 => by
  refine enter Tryd.func62 rfl Tryd.ntmps62 (Nat.le_of_ble_eq_true rfl) fun A hn hdf => ?_
  have hM : Mem w0 [] w0 [] := Mem.start w0
  replace hM := hM
  refine wp_seq ?_
  refine wp_region_lit ?_
  refine T_box 3 hn hM rfl rfl rfl rfl rfl #[(.int .i64 64), (.int .i64 80), (.int .i64 1), (.int .i64 8), (.int .i64 7), (.int .i64 19), (.int .i64 61), (.int .i64 6), (.int .i64 28), (.int .i64 34), (.int .i64 39), (.int .i64 14), (.int .i64 18), (.int .i64 41)] rfl (fun b0 w hM => ?_)
  refine T_val 6 hn hM rfl rfl rfl (v := (.int .u64 0)) (g_assign rfl rfl) ?_
  refine T_nil ?_
  refine wp_seq ?_
  refine wp_seq ?_
  refine wp_region_lit ?_
  refine T_val 7 hn hM rfl rfl rfl (v := (.pointer (some ⟨b0, 0, none⟩))) (g_fieldAddr rfl rfl Tryd.underlying41 rfl Tryd.sizeOf3 0 rfl) ?_
  refine T_val 8 hn hM rfl rfl rfl (v := (.int .i64 64)) (g_loadOne 0 rfl rfl rfl Tryd.underlying3 rfl rfl) ?_
  refine T_val 9 hn hM rfl rfl rfl (v := (.bool false)) (g_int rfl rfl rfl rfl rfl) ?_
  refine T_nil ?_
  refine C_condF hn rfl rfl ?_
  refine wp_skip ?_
  refine x_next ?_
  refine wp_seq ?_
  refine wp_region_lit ?_
  refine T_val 16 hn hM rfl rfl rfl (v := (.int .u64 x)) (g_move rfl rfl) ?_
  refine T_val 17 hn hM rfl rfl rfl (v := (.int .i64 8)) (g_move rfl rfl) ?_
  refine T_val 18 hn hM rfl rfl rfl (v := (.int .i64 (-8))) (g_unOp rfl rfl (fun w => rfl)) ?_
  refine T_call 19 hn hM rfl rfl rfl (v := (.int .u64 (rotr64 x 8))) (g_call (rot64_8 x) rfl rfl rfl Tryd.func67 nm67 bd67) (fun w hM => ?_)
  refine T_val 6 hn hM rfl rfl rfl (v := (.int .u64 (rotr64 x 8))) (g_assign rfl rfl) ?_
  refine T_nil ?_
  refine wp_ret ?_
  refine leave (.inl rfl) hn hdf hM rfl Tryd.results62 (vs := [(.int .u64 (rotr64 x 8))]) (.tmp 6 rfl .nil) ?_
  exact ⟨rfl, hM.done⟩


set_option maxHeartbeats 1000000 in
set_option maxRecDepth 100000 in
theorem turn64_19 (x : Int) : Pure 62 #[kind512V, (.int .u64 x), (.int .i64 19)] (.int .u64 (rotr64 x 19)) := fun w0 => by
  refine enter Tryd.func62 rfl Tryd.ntmps62 (Nat.le_of_ble_eq_true rfl) fun A hn hdf => ?_
  have hM : Mem w0 [] w0 [] := Mem.start w0
  replace hM := hM
  refine wp_seq ?_
  refine wp_region_lit ?_
  refine T_box 3 hn hM rfl rfl rfl rfl rfl #[(.int .i64 64), (.int .i64 80), (.int .i64 1), (.int .i64 8), (.int .i64 7), (.int .i64 19), (.int .i64 61), (.int .i64 6), (.int .i64 28), (.int .i64 34), (.int .i64 39), (.int .i64 14), (.int .i64 18), (.int .i64 41)] rfl (fun b0 w hM => ?_)
  refine T_val 6 hn hM rfl rfl rfl (v := (.int .u64 0)) (g_assign rfl rfl) ?_
  refine T_nil ?_
  refine wp_seq ?_
  refine wp_seq ?_
  refine wp_region_lit ?_
  refine T_val 7 hn hM rfl rfl rfl (v := (.pointer (some ⟨b0, 0, none⟩))) (g_fieldAddr rfl rfl Tryd.underlying41 rfl Tryd.sizeOf3 0 rfl) ?_
  refine T_val 8 hn hM rfl rfl rfl (v := (.int .i64 64)) (g_loadOne 0 rfl rfl rfl Tryd.underlying3 rfl rfl) ?_
  refine T_val 9 hn hM rfl rfl rfl (v := (.bool false)) (g_int rfl rfl rfl rfl rfl) ?_
  refine T_nil ?_
  refine C_condF hn rfl rfl ?_
  refine wp_skip ?_
  refine x_next ?_
  refine wp_seq ?_
  refine wp_region_lit ?_
  refine T_val 16 hn hM rfl rfl rfl (v := (.int .u64 x)) (g_move rfl rfl) ?_
  refine T_val 17 hn hM rfl rfl rfl (v := (.int .i64 19)) (g_move rfl rfl) ?_
  refine T_val 18 hn hM rfl rfl rfl (v := (.int .i64 (-19))) (g_unOp rfl rfl (fun w => rfl)) ?_
  refine T_call 19 hn hM rfl rfl rfl (v := (.int .u64 (rotr64 x 19))) (g_call (rot64_19 x) rfl rfl rfl Tryd.func67 nm67 bd67) (fun w hM => ?_)
  refine T_val 6 hn hM rfl rfl rfl (v := (.int .u64 (rotr64 x 19))) (g_assign rfl rfl) ?_
  refine T_nil ?_
  refine wp_ret ?_
  refine leave (.inl rfl) hn hdf hM rfl Tryd.results62 (vs := [(.int .u64 (rotr64 x 19))]) (.tmp 6 rfl .nil) ?_
  exact ⟨rfl, hM.done⟩


set_option maxHeartbeats 1000000 in
set_option maxRecDepth 100000 in
theorem turn64_61 (x : Int) : Pure 62 #[kind512V, (.int .u64 x), (.int .i64 61)] (.int .u64 (rotr64 x 61)) := fun w0 => by
  refine enter Tryd.func62 rfl Tryd.ntmps62 (Nat.le_of_ble_eq_true rfl) fun A hn hdf => ?_
  have hM : Mem w0 [] w0 [] := Mem.start w0
  replace hM := hM
  refine wp_seq ?_
  refine wp_region_lit ?_
  refine T_box 3 hn hM rfl rfl rfl rfl rfl #[(.int .i64 64), (.int .i64 80), (.int .i64 1), (.int .i64 8), (.int .i64 7), (.int .i64 19), (.int .i64 61), (.int .i64 6), (.int .i64 28), (.int .i64 34), (.int .i64 39), (.int .i64 14), (.int .i64 18), (.int .i64 41)] rfl (fun b0 w hM => ?_)
  refine T_val 6 hn hM rfl rfl rfl (v := (.int .u64 0)) (g_assign rfl rfl) ?_
  refine T_nil ?_
  refine wp_seq ?_
  refine wp_seq ?_
  refine wp_region_lit ?_
  refine T_val 7 hn hM rfl rfl rfl (v := (.pointer (some ⟨b0, 0, none⟩))) (g_fieldAddr rfl rfl Tryd.underlying41 rfl Tryd.sizeOf3 0 rfl) ?_
  refine T_val 8 hn hM rfl rfl rfl (v := (.int .i64 64)) (g_loadOne 0 rfl rfl rfl Tryd.underlying3 rfl rfl) ?_
  refine T_val 9 hn hM rfl rfl rfl (v := (.bool false)) (g_int rfl rfl rfl rfl rfl) ?_
  refine T_nil ?_
  refine C_condF hn rfl rfl ?_
  refine wp_skip ?_
  refine x_next ?_
  refine wp_seq ?_
  refine wp_region_lit ?_
  refine T_val 16 hn hM rfl rfl rfl (v := (.int .u64 x)) (g_move rfl rfl) ?_
  refine T_val 17 hn hM rfl rfl rfl (v := (.int .i64 61)) (g_move rfl rfl) ?_
  refine T_val 18 hn hM rfl rfl rfl (v := (.int .i64 (-61))) (g_unOp rfl rfl (fun w => rfl)) ?_
  refine T_call 19 hn hM rfl rfl rfl (v := (.int .u64 (rotr64 x 61))) (g_call (rot64_61 x) rfl rfl rfl Tryd.func67 nm67 bd67) (fun w hM => ?_)
  refine T_val 6 hn hM rfl rfl rfl (v := (.int .u64 (rotr64 x 61))) (g_assign rfl rfl) ?_
  refine T_nil ?_
  refine wp_ret ?_
  refine leave (.inl rfl) hn hdf hM rfl Tryd.results62 (vs := [(.int .u64 (rotr64 x 61))]) (.tmp 6 rfl .nil) ?_
  exact ⟨rfl, hM.done⟩


set_option maxHeartbeats 1000000 in
set_option maxRecDepth 100000 in
theorem turn64_28 (x : Int) : Pure 62 #[kind512V, (.int .u64 x), (.int .i64 28)] (.int .u64 (rotr64 x 28)) := fun w0 => by
  refine enter Tryd.func62 rfl Tryd.ntmps62 (Nat.le_of_ble_eq_true rfl) fun A hn hdf => ?_
  have hM : Mem w0 [] w0 [] := Mem.start w0
  replace hM := hM
  refine wp_seq ?_
  refine wp_region_lit ?_
  refine T_box 3 hn hM rfl rfl rfl rfl rfl #[(.int .i64 64), (.int .i64 80), (.int .i64 1), (.int .i64 8), (.int .i64 7), (.int .i64 19), (.int .i64 61), (.int .i64 6), (.int .i64 28), (.int .i64 34), (.int .i64 39), (.int .i64 14), (.int .i64 18), (.int .i64 41)] rfl (fun b0 w hM => ?_)
  refine T_val 6 hn hM rfl rfl rfl (v := (.int .u64 0)) (g_assign rfl rfl) ?_
  refine T_nil ?_
  refine wp_seq ?_
  refine wp_seq ?_
  refine wp_region_lit ?_
  refine T_val 7 hn hM rfl rfl rfl (v := (.pointer (some ⟨b0, 0, none⟩))) (g_fieldAddr rfl rfl Tryd.underlying41 rfl Tryd.sizeOf3 0 rfl) ?_
  refine T_val 8 hn hM rfl rfl rfl (v := (.int .i64 64)) (g_loadOne 0 rfl rfl rfl Tryd.underlying3 rfl rfl) ?_
  refine T_val 9 hn hM rfl rfl rfl (v := (.bool false)) (g_int rfl rfl rfl rfl rfl) ?_
  refine T_nil ?_
  refine C_condF hn rfl rfl ?_
  refine wp_skip ?_
  refine x_next ?_
  refine wp_seq ?_
  refine wp_region_lit ?_
  refine T_val 16 hn hM rfl rfl rfl (v := (.int .u64 x)) (g_move rfl rfl) ?_
  refine T_val 17 hn hM rfl rfl rfl (v := (.int .i64 28)) (g_move rfl rfl) ?_
  refine T_val 18 hn hM rfl rfl rfl (v := (.int .i64 (-28))) (g_unOp rfl rfl (fun w => rfl)) ?_
  refine T_call 19 hn hM rfl rfl rfl (v := (.int .u64 (rotr64 x 28))) (g_call (rot64_28 x) rfl rfl rfl Tryd.func67 nm67 bd67) (fun w hM => ?_)
  refine T_val 6 hn hM rfl rfl rfl (v := (.int .u64 (rotr64 x 28))) (g_assign rfl rfl) ?_
  refine T_nil ?_
  refine wp_ret ?_
  refine leave (.inl rfl) hn hdf hM rfl Tryd.results62 (vs := [(.int .u64 (rotr64 x 28))]) (.tmp 6 rfl .nil) ?_
  exact ⟨rfl, hM.done⟩


set_option maxHeartbeats 1000000 in
set_option maxRecDepth 100000 in
theorem turn64_34 (x : Int) : Pure 62 #[kind512V, (.int .u64 x), (.int .i64 34)] (.int .u64 (rotr64 x 34)) := fun w0 => by
  refine enter Tryd.func62 rfl Tryd.ntmps62 (Nat.le_of_ble_eq_true rfl) fun A hn hdf => ?_
  have hM : Mem w0 [] w0 [] := Mem.start w0
  replace hM := hM
  refine wp_seq ?_
  refine wp_region_lit ?_
  refine T_box 3 hn hM rfl rfl rfl rfl rfl #[(.int .i64 64), (.int .i64 80), (.int .i64 1), (.int .i64 8), (.int .i64 7), (.int .i64 19), (.int .i64 61), (.int .i64 6), (.int .i64 28), (.int .i64 34), (.int .i64 39), (.int .i64 14), (.int .i64 18), (.int .i64 41)] rfl (fun b0 w hM => ?_)
  refine T_val 6 hn hM rfl rfl rfl (v := (.int .u64 0)) (g_assign rfl rfl) ?_
  refine T_nil ?_
  refine wp_seq ?_
  refine wp_seq ?_
  refine wp_region_lit ?_
  refine T_val 7 hn hM rfl rfl rfl (v := (.pointer (some ⟨b0, 0, none⟩))) (g_fieldAddr rfl rfl Tryd.underlying41 rfl Tryd.sizeOf3 0 rfl) ?_
  refine T_val 8 hn hM rfl rfl rfl (v := (.int .i64 64)) (g_loadOne 0 rfl rfl rfl Tryd.underlying3 rfl rfl) ?_
  refine T_val 9 hn hM rfl rfl rfl (v := (.bool false)) (g_int rfl rfl rfl rfl rfl) ?_
  refine T_nil ?_
  refine C_condF hn rfl rfl ?_
  refine wp_skip ?_
  refine x_next ?_
  refine wp_seq ?_
  refine wp_region_lit ?_
  refine T_val 16 hn hM rfl rfl rfl (v := (.int .u64 x)) (g_move rfl rfl) ?_
  refine T_val 17 hn hM rfl rfl rfl (v := (.int .i64 34)) (g_move rfl rfl) ?_
  refine T_val 18 hn hM rfl rfl rfl (v := (.int .i64 (-34))) (g_unOp rfl rfl (fun w => rfl)) ?_
  refine T_call 19 hn hM rfl rfl rfl (v := (.int .u64 (rotr64 x 34))) (g_call (rot64_34 x) rfl rfl rfl Tryd.func67 nm67 bd67) (fun w hM => ?_)
  refine T_val 6 hn hM rfl rfl rfl (v := (.int .u64 (rotr64 x 34))) (g_assign rfl rfl) ?_
  refine T_nil ?_
  refine wp_ret ?_
  refine leave (.inl rfl) hn hdf hM rfl Tryd.results62 (vs := [(.int .u64 (rotr64 x 34))]) (.tmp 6 rfl .nil) ?_
  exact ⟨rfl, hM.done⟩


set_option maxHeartbeats 1000000 in
set_option maxRecDepth 100000 in
theorem turn64_39 (x : Int) : Pure 62 #[kind512V, (.int .u64 x), (.int .i64 39)] (.int .u64 (rotr64 x 39)) := fun w0 => by
  refine enter Tryd.func62 rfl Tryd.ntmps62 (Nat.le_of_ble_eq_true rfl) fun A hn hdf => ?_
  have hM : Mem w0 [] w0 [] := Mem.start w0
  replace hM := hM
  refine wp_seq ?_
  refine wp_region_lit ?_
  refine T_box 3 hn hM rfl rfl rfl rfl rfl #[(.int .i64 64), (.int .i64 80), (.int .i64 1), (.int .i64 8), (.int .i64 7), (.int .i64 19), (.int .i64 61), (.int .i64 6), (.int .i64 28), (.int .i64 34), (.int .i64 39), (.int .i64 14), (.int .i64 18), (.int .i64 41)] rfl (fun b0 w hM => ?_)
  refine T_val 6 hn hM rfl rfl rfl (v := (.int .u64 0)) (g_assign rfl rfl) ?_
  refine T_nil ?_
  refine wp_seq ?_
  refine wp_seq ?_
  refine wp_region_lit ?_
  refine T_val 7 hn hM rfl rfl rfl (v := (.pointer (some ⟨b0, 0, none⟩))) (g_fieldAddr rfl rfl Tryd.underlying41 rfl Tryd.sizeOf3 0 rfl) ?_
  refine T_val 8 hn hM rfl rfl rfl (v := (.int .i64 64)) (g_loadOne 0 rfl rfl rfl Tryd.underlying3 rfl rfl) ?_
  refine T_val 9 hn hM rfl rfl rfl (v := (.bool false)) (g_int rfl rfl rfl rfl rfl) ?_
  refine T_nil ?_
  refine C_condF hn rfl rfl ?_
  refine wp_skip ?_
  refine x_next ?_
  refine wp_seq ?_
  refine wp_region_lit ?_
  refine T_val 16 hn hM rfl rfl rfl (v := (.int .u64 x)) (g_move rfl rfl) ?_
  refine T_val 17 hn hM rfl rfl rfl (v := (.int .i64 39)) (g_move rfl rfl) ?_
  refine T_val 18 hn hM rfl rfl rfl (v := (.int .i64 (-39))) (g_unOp rfl rfl (fun w => rfl)) ?_
  refine T_call 19 hn hM rfl rfl rfl (v := (.int .u64 (rotr64 x 39))) (g_call (rot64_39 x) rfl rfl rfl Tryd.func67 nm67 bd67) (fun w hM => ?_)
  refine T_val 6 hn hM rfl rfl rfl (v := (.int .u64 (rotr64 x 39))) (g_assign rfl rfl) ?_
  refine T_nil ?_
  refine wp_ret ?_
  refine leave (.inl rfl) hn hdf hM rfl Tryd.results62 (vs := [(.int .u64 (rotr64 x 39))]) (.tmp 6 rfl .nil) ?_
  exact ⟨rfl, hM.done⟩


set_option maxHeartbeats 1000000 in
set_option maxRecDepth 100000 in
theorem turn64_14 (x : Int) : Pure 62 #[kind512V, (.int .u64 x), (.int .i64 14)] (.int .u64 (rotr64 x 14)) := fun w0 => by
  refine enter Tryd.func62 rfl Tryd.ntmps62 (Nat.le_of_ble_eq_true rfl) fun A hn hdf => ?_
  have hM : Mem w0 [] w0 [] := Mem.start w0
  replace hM := hM
  refine wp_seq ?_
  refine wp_region_lit ?_
  refine T_box 3 hn hM rfl rfl rfl rfl rfl #[(.int .i64 64), (.int .i64 80), (.int .i64 1), (.int .i64 8), (.int .i64 7), (.int .i64 19), (.int .i64 61), (.int .i64 6), (.int .i64 28), (.int .i64 34), (.int .i64 39), (.int .i64 14), (.int .i64 18), (.int .i64 41)] rfl (fun b0 w hM => ?_)
  refine T_val 6 hn hM rfl rfl rfl (v := (.int .u64 0)) (g_assign rfl rfl) ?_
  refine T_nil ?_
  refine wp_seq ?_
  refine wp_seq ?_
  refine wp_region_lit ?_
  refine T_val 7 hn hM rfl rfl rfl (v := (.pointer (some ⟨b0, 0, none⟩))) (g_fieldAddr rfl rfl Tryd.underlying41 rfl Tryd.sizeOf3 0 rfl) ?_
  refine T_val 8 hn hM rfl rfl rfl (v := (.int .i64 64)) (g_loadOne 0 rfl rfl rfl Tryd.underlying3 rfl rfl) ?_
  refine T_val 9 hn hM rfl rfl rfl (v := (.bool false)) (g_int rfl rfl rfl rfl rfl) ?_
  refine T_nil ?_
  refine C_condF hn rfl rfl ?_
  refine wp_skip ?_
  refine x_next ?_
  refine wp_seq ?_
  refine wp_region_lit ?_
  refine T_val 16 hn hM rfl rfl rfl (v := (.int .u64 x)) (g_move rfl rfl) ?_
  refine T_val 17 hn hM rfl rfl rfl (v := (.int .i64 14)) (g_move rfl rfl) ?_
  refine T_val 18 hn hM rfl rfl rfl (v := (.int .i64 (-14))) (g_unOp rfl rfl (fun w => rfl)) ?_
  refine T_call 19 hn hM rfl rfl rfl (v := (.int .u64 (rotr64 x 14))) (g_call (rot64_14 x) rfl rfl rfl Tryd.func67 nm67 bd67) (fun w hM => ?_)
  refine T_val 6 hn hM rfl rfl rfl (v := (.int .u64 (rotr64 x 14))) (g_assign rfl rfl) ?_
  refine T_nil ?_
  refine wp_ret ?_
  refine leave (.inl rfl) hn hdf hM rfl Tryd.results62 (vs := [(.int .u64 (rotr64 x 14))]) (.tmp 6 rfl .nil) ?_
  exact ⟨rfl, hM.done⟩


set_option maxHeartbeats 1000000 in
set_option maxRecDepth 100000 in
theorem turn64_18 (x : Int) : Pure 62 #[kind512V, (.int .u64 x), (.int .i64 18)] (.int .u64 (rotr64 x 18)) := fun w0 => by
  refine enter Tryd.func62 rfl Tryd.ntmps62 (Nat.le_of_ble_eq_true rfl) fun A hn hdf => ?_
  have hM : Mem w0 [] w0 [] := Mem.start w0
  replace hM := hM
  refine wp_seq ?_
  refine wp_region_lit ?_
  refine T_box 3 hn hM rfl rfl rfl rfl rfl #[(.int .i64 64), (.int .i64 80), (.int .i64 1), (.int .i64 8), (.int .i64 7), (.int .i64 19), (.int .i64 61), (.int .i64 6), (.int .i64 28), (.int .i64 34), (.int .i64 39), (.int .i64 14), (.int .i64 18), (.int .i64 41)] rfl (fun b0 w hM => ?_)
  refine T_val 6 hn hM rfl rfl rfl (v := (.int .u64 0)) (g_assign rfl rfl) ?_
  refine T_nil ?_
  refine wp_seq ?_
  refine wp_seq ?_
  refine wp_region_lit ?_
  refine T_val 7 hn hM rfl rfl rfl (v := (.pointer (some ⟨b0, 0, none⟩))) (g_fieldAddr rfl rfl Tryd.underlying41 rfl Tryd.sizeOf3 0 rfl) ?_
  refine T_val 8 hn hM rfl rfl rfl (v := (.int .i64 64)) (g_loadOne 0 rfl rfl rfl Tryd.underlying3 rfl rfl) ?_
  refine T_val 9 hn hM rfl rfl rfl (v := (.bool false)) (g_int rfl rfl rfl rfl rfl) ?_
  refine T_nil ?_
  refine C_condF hn rfl rfl ?_
  refine wp_skip ?_
  refine x_next ?_
  refine wp_seq ?_
  refine wp_region_lit ?_
  refine T_val 16 hn hM rfl rfl rfl (v := (.int .u64 x)) (g_move rfl rfl) ?_
  refine T_val 17 hn hM rfl rfl rfl (v := (.int .i64 18)) (g_move rfl rfl) ?_
  refine T_val 18 hn hM rfl rfl rfl (v := (.int .i64 (-18))) (g_unOp rfl rfl (fun w => rfl)) ?_
  refine T_call 19 hn hM rfl rfl rfl (v := (.int .u64 (rotr64 x 18))) (g_call (rot64_18 x) rfl rfl rfl Tryd.func67 nm67 bd67) (fun w hM => ?_)
  refine T_val 6 hn hM rfl rfl rfl (v := (.int .u64 (rotr64 x 18))) (g_assign rfl rfl) ?_
  refine T_nil ?_
  refine wp_ret ?_
  refine leave (.inl rfl) hn hdf hM rfl Tryd.results62 (vs := [(.int .u64 (rotr64 x 18))]) (.tmp 6 rfl .nil) ?_
  exact ⟨rfl, hM.done⟩


set_option maxHeartbeats 1000000 in
set_option maxRecDepth 100000 in
theorem turn64_41 (x : Int) : Pure 62 #[kind512V, (.int .u64 x), (.int .i64 41)] (.int .u64 (rotr64 x 41)) := fun w0 => by
  refine enter Tryd.func62 rfl Tryd.ntmps62 (Nat.le_of_ble_eq_true rfl) fun A hn hdf => ?_
  have hM : Mem w0 [] w0 [] := Mem.start w0
  replace hM := hM
  refine wp_seq ?_
  refine wp_region_lit ?_
  refine T_box 3 hn hM rfl rfl rfl rfl rfl #[(.int .i64 64), (.int .i64 80), (.int .i64 1), (.int .i64 8), (.int .i64 7), (.int .i64 19), (.int .i64 61), (.int .i64 6), (.int .i64 28), (.int .i64 34), (.int .i64 39), (.int .i64 14), (.int .i64 18), (.int .i64 41)] rfl (fun b0 w hM => ?_)
  refine T_val 6 hn hM rfl rfl rfl (v := (.int .u64 0)) (g_assign rfl rfl) ?_
  refine T_nil ?_
  refine wp_seq ?_
  refine wp_seq ?_
  refine wp_region_lit ?_
  refine T_val 7 hn hM rfl rfl rfl (v := (.pointer (some ⟨b0, 0, none⟩))) (g_fieldAddr rfl rfl Tryd.underlying41 rfl Tryd.sizeOf3 0 rfl) ?_
  refine T_val 8 hn hM rfl rfl rfl (v := (.int .i64 64)) (g_loadOne 0 rfl rfl rfl Tryd.underlying3 rfl rfl) ?_
  refine T_val 9 hn hM rfl rfl rfl (v := (.bool false)) (g_int rfl rfl rfl rfl rfl) ?_
  refine T_nil ?_
  refine C_condF hn rfl rfl ?_
  refine wp_skip ?_
  refine x_next ?_
  refine wp_seq ?_
  refine wp_region_lit ?_
  refine T_val 16 hn hM rfl rfl rfl (v := (.int .u64 x)) (g_move rfl rfl) ?_
  refine T_val 17 hn hM rfl rfl rfl (v := (.int .i64 41)) (g_move rfl rfl) ?_
  refine T_val 18 hn hM rfl rfl rfl (v := (.int .i64 (-41))) (g_unOp rfl rfl (fun w => rfl)) ?_
  refine T_call 19 hn hM rfl rfl rfl (v := (.int .u64 (rotr64 x 41))) (g_call (rot64_41 x) rfl rfl rfl Tryd.func67 nm67 bd67) (fun w hM => ?_)
  refine T_val 6 hn hM rfl rfl rfl (v := (.int .u64 (rotr64 x 41))) (g_assign rfl rfl) ?_
  refine T_nil ?_
  refine wp_ret ?_
  refine leave (.inl rfl) hn hdf hM rfl Tryd.results62 (vs := [(.int .u64 (rotr64 x 41))]) (.tmp 6 rfl .nil) ?_
  exact ⟨rfl, hM.done⟩


set_option maxHeartbeats 1000000 in
set_option maxRecDepth 100000 in
theorem cut64_E (x : Int) : Pure 54 #[kind512V, (.int .u64 x)] (.int .u64 (cut64 x)) := fun w0 => by
  refine enter Tryd.func54 rfl Tryd.ntmps54 (Nat.le_of_ble_eq_true rfl) fun A hn hdf => ?_
  have hM : Mem w0 [] w0 [] := Mem.start w0
  replace hM := hM
  refine wp_seq ?_
  refine wp_region_lit ?_
  refine T_box 2 hn hM rfl rfl rfl rfl rfl #[(.int .i64 64), (.int .i64 80), (.int .i64 1), (.int .i64 8), (.int .i64 7), (.int .i64 19), (.int .i64 61), (.int .i64 6), (.int .i64 28), (.int .i64 34), (.int .i64 39), (.int .i64 14), (.int .i64 18), (.int .i64 41)] rfl (fun b0 w hM => ?_)
  refine T_val 4 hn hM rfl rfl rfl (v := (.int .u64 0)) (g_assign rfl rfl) ?_
  refine T_nil ?_
  refine wp_seq ?_
  refine R_any [.val, .val, .val, .val, .val, .val, .val, .val] 8 [] [] hn hM rfl (by kernel_rfl) (by kernel_rfl) rfl rfl rfl ?_
  refine E_val 5 rfl rfl rfl rfl (v := (.int .u64 x)) (g_move rfl rfl) ?_
  refine E_val 6 rfl rfl rfl rfl (v := (.pointer (some ⟨b0, 0, none⟩))) (g_fieldAddr rfl rfl Tryd.underlying41 rfl Tryd.sizeOf3 0 rfl) ?_
  refine E_val 7 rfl rfl rfl rfl (v := (.int .i64 64)) (g_loadOne 0 rfl rfl rfl Tryd.underlying3 rfl rfl) ?_
  refine E_val 8 rfl rfl rfl rfl (v := (.int .i64 0)) (g_int rfl rfl rfl rfl rfl) ?_
  refine E_val 9 rfl rfl rfl rfl (v := (.int .u64 (iShl .u64 x 0))) (g_shl (n := 0) rfl rfl rfl rfl) ?_
  refine E_val 10 rfl rfl rfl rfl (v := (.pointer (some ⟨b0, 0, none⟩))) (g_fieldAddr rfl rfl Tryd.underlying41 rfl Tryd.sizeOf3 0 rfl) ?_
  refine E_val 11 rfl rfl rfl rfl (v := (.int .i64 64)) (g_loadOne 0 rfl rfl rfl Tryd.underlying3 rfl rfl) ?_
  refine E_val 12 rfl rfl rfl rfl (v := (.int .i64 0)) (g_int rfl rfl rfl rfl rfl) ?_
  refine E_nil ?_
  refine ⟨?_, fun β1 w hM => ?_⟩
  · skip
    refine M_val rfl ?_
    refine M_val rfl ?_
    refine M_val rfl ?_
    refine M_val rfl ?_
    refine M_val rfl ?_
    refine M_val rfl ?_
    refine M_val rfl ?_
    refine M_val rfl ?_
    exact M_nil
  show wpList _ _ _ (_ :: _) (putAll _ (_)) _
  refine T_val 13 hn hM rfl rfl rfl (v := (.int .u64 (iShr .u64 (iShl .u64 x 0) 0))) (g_shr (n := 0) rfl rfl rfl rfl) ?_
  refine T_val 4 hn hM rfl rfl rfl (v := (.int .u64 (iShr .u64 (iShl .u64 x 0) 0))) (g_assign rfl rfl) ?_
  refine T_nil ?_
  refine wp_ret ?_
  refine leave (.inl rfl) hn hdf hM rfl Tryd.results54 (vs := [(.int .u64 (iShr .u64 (iShl .u64 x 0) 0))]) (.tmp 4 rfl .nil) ?_
  exact ⟨rfl, hM.done⟩


set_option maxHeartbeats 1000000 in
set_option maxRecDepth 100000 in
theorem word64_E (x : Int) : Pure 30 #[kind512V, (.int .u64 x)] (.int .u64 (word64 x)) := fun w0 => by
  refine enter Tryd.func30 rfl Tryd.ntmps30 (Nat.le_of_ble_eq_true rfl) fun A hn hdf => ?_
  have hM : Mem w0 [] w0 [] := Mem.start w0
  replace hM := hM
  refine wp_seq ?_
  refine wp_region_lit ?_
  refine T_box 2 hn hM rfl rfl rfl rfl rfl #[(.int .i64 64), (.int .i64 80), (.int .i64 1), (.int .i64 8), (.int .i64 7), (.int .i64 19), (.int .i64 61), (.int .i64 6), (.int .i64 28), (.int .i64 34), (.int .i64 39), (.int .i64 14), (.int .i64 18), (.int .i64 41)] rfl (fun b0 w hM => ?_)
  refine T_val 4 hn hM rfl rfl rfl (v := (.int .u64 0)) (g_assign rfl rfl) ?_
  refine T_nil ?_
  refine wp_seq ?_
  refine wp_region_lit ?_
  refine T_val 5 hn hM rfl rfl rfl (v := (.int .u64 x)) (g_move rfl rfl) ?_
  refine T_val 6 hn hM rfl rfl rfl (v := (.pointer (some ⟨b0, 0, none⟩))) (g_fieldAddr rfl rfl Tryd.underlying41 rfl Tryd.sizeOf3 0 rfl) ?_
  refine T_val 7 hn hM rfl rfl rfl (v := (.int .i64 64)) (g_loadOne 0 rfl rfl rfl Tryd.underlying3 rfl rfl) ?_
  refine T_val 8 hn hM rfl rfl rfl (v := (.int .i64 0)) (g_int rfl rfl rfl rfl rfl) ?_
  refine T_val 9 hn hM rfl rfl rfl (v := (.int .u64 (iShr .u64 x 0))) (g_shr (n := 0) rfl rfl rfl rfl) ?_
  refine T_val 4 hn hM rfl rfl rfl (v := (.int .u64 (iShr .u64 x 0))) (g_assign rfl rfl) ?_
  refine T_nil ?_
  refine wp_ret ?_
  refine leave (.inl rfl) hn hdf hM rfl Tryd.results30 (vs := [(.int .u64 (iShr .u64 x 0))]) (.tmp 4 rfl .nil) ?_
  exact ⟨rfl, hM.done⟩

theorem nm62 : (Tryd.f62.name == "runtime.NumGoroutine") = false := by kernel_rfl
theorem bd62 : Tryd.f62.body.isNone = false := by kernel_rfl

set_option maxHeartbeats 1000000 in
set_option maxRecDepth 100000 in
theorem large64_14 (x : Int) : Pure 53 #[kind512V, (.int .u64 x), (.agg #[(.int .i64 14), (.int .i64 18), (.int .i64 41)])] (.int .u64 (large64 x 14 18 41)) := fun w0 => by
  refine enter Tryd.func53 rfl Tryd.ntmps53 (Nat.le_of_ble_eq_true rfl) fun A hn hdf => ?_
  have hM : Mem w0 [] w0 [] := Mem.start w0
  replace hM := hM
  refine wp_seq ?_
  refine wp_region_lit ?_
  refine T_box 3 hn hM rfl rfl rfl rfl rfl #[(.int .i64 64), (.int .i64 80), (.int .i64 1), (.int .i64 8), (.int .i64 7), (.int .i64 19), (.int .i64 61), (.int .i64 6), (.int .i64 28), (.int .i64 34), (.int .i64 39), (.int .i64 14), (.int .i64 18), (.int .i64 41)] rfl (fun b0 w hM => ?_)
  refine T_box 5 hn hM rfl rfl rfl rfl rfl #[(.int .i64 14), (.int .i64 18), (.int .i64 41)] rfl (fun b1 w hM => ?_)
  refine T_val 6 hn hM rfl rfl rfl (v := (.int .u64 0)) (g_assign rfl rfl) ?_
  refine T_nil ?_
  refine wp_seq ?_
  refine R_any [.val, .val, .val, .val, .val, .val, .val, .val, .val, .val, .val, .val, .val, .val, .val, .val] 16 [] [] hn hM rfl (by kernel_rfl) (by kernel_rfl) rfl rfl rfl ?_
  refine E_val 7 rfl rfl rfl rfl (v := (.agg #[(.int .i64 64), (.int .i64 80), (.int .i64 1), (.int .i64 8), (.int .i64 7), (.int .i64 19), (.int .i64 61), (.int .i64 6), (.int .i64 28), (.int .i64 34), (.int .i64 39), (.int .i64 14), (.int .i64 18), (.int .i64 41)])) (g_loadRow 1 [(.int .i64 64), (.int .i64 80), (.int .i64 1), (.int .i64 8), (.int .i64 7), (.int .i64 19), (.int .i64 61), (.int .i64 6), (.int .i64 28), (.int .i64 34), (.int .i64 39), (.int .i64 14), (.int .i64 18), (.int .i64 41)] rfl rfl rfl Tryd.underlying41 rfl sz41 rfl) ?_
  refine E_val 8 rfl rfl rfl rfl (v := (.int .u64 x)) (g_move rfl rfl) ?_
  refine E_val 9 rfl rfl rfl rfl (v := (.pointer (some ⟨b1, 0, none⟩))) (g_indexAddr 0 rfl rfl rfl Tryd.underlying39 Tryd.sizeOf3 (by decide) rfl) ?_
  refine E_val 10 rfl rfl rfl rfl (v := (.int .i64 14)) (g_loadOne 0 rfl rfl rfl Tryd.underlying3 rfl rfl) ?_
  refine E_call 11 rfl rfl rfl rfl (v := (.int .u64 (rotr64 x 14))) (g_call (turn64_14 x) rfl rfl rfl Tryd.func62 nm62 bd62) ?_
  refine E_val 12 rfl rfl rfl rfl (v := (.agg #[(.int .i64 64), (.int .i64 80), (.int .i64 1), (.int .i64 8), (.int .i64 7), (.int .i64 19), (.int .i64 61), (.int .i64 6), (.int .i64 28), (.int .i64 34), (.int .i64 39), (.int .i64 14), (.int .i64 18), (.int .i64 41)])) (g_loadRow 1 [(.int .i64 64), (.int .i64 80), (.int .i64 1), (.int .i64 8), (.int .i64 7), (.int .i64 19), (.int .i64 61), (.int .i64 6), (.int .i64 28), (.int .i64 34), (.int .i64 39), (.int .i64 14), (.int .i64 18), (.int .i64 41)] rfl rfl rfl Tryd.underlying41 rfl sz41 rfl) ?_
  refine E_val 13 rfl rfl rfl rfl (v := (.int .u64 x)) (g_move rfl rfl) ?_
  refine E_val 14 rfl rfl rfl rfl (v := (.pointer (some ⟨b1, 1, none⟩))) (g_indexAddr 1 rfl rfl rfl Tryd.underlying39 Tryd.sizeOf3 (by decide) rfl) ?_
  refine E_val 15 rfl rfl rfl rfl (v := (.int .i64 18)) (g_loadOne 0 rfl rfl rfl Tryd.underlying3 rfl rfl) ?_
  refine E_call 16 rfl rfl rfl rfl (v := (.int .u64 (rotr64 x 18))) (g_call (turn64_18 x) rfl rfl rfl Tryd.func62 nm62 bd62) ?_
  refine E_val 17 rfl rfl rfl rfl (v := (.int .u64 (iXor .u64 (rotr64 x 14) (rotr64 x 18)))) (g_int rfl rfl rfl rfl rfl) ?_
  refine E_val 18 rfl rfl rfl rfl (v := (.agg #[(.int .i64 64), (.int .i64 80), (.int .i64 1), (.int .i64 8), (.int .i64 7), (.int .i64 19), (.int .i64 61), (.int .i64 6), (.int .i64 28), (.int .i64 34), (.int .i64 39), (.int .i64 14), (.int .i64 18), (.int .i64 41)])) (g_loadRow 1 [(.int .i64 64), (.int .i64 80), (.int .i64 1), (.int .i64 8), (.int .i64 7), (.int .i64 19), (.int .i64 61), (.int .i64 6), (.int .i64 28), (.int .i64 34), (.int .i64 39), (.int .i64 14), (.int .i64 18), (.int .i64 41)] rfl rfl rfl Tryd.underlying41 rfl sz41 rfl) ?_
  refine E_val 19 rfl rfl rfl rfl (v := (.int .u64 x)) (g_move rfl rfl) ?_
  refine E_val 20 rfl rfl rfl rfl (v := (.pointer (some ⟨b1, 2, none⟩))) (g_indexAddr 2 rfl rfl rfl Tryd.underlying39 Tryd.sizeOf3 (by decide) rfl) ?_
  refine E_val 21 rfl rfl rfl rfl (v := (.int .i64 41)) (g_loadOne 0 rfl rfl rfl Tryd.underlying3 rfl rfl) ?_
  refine E_call 22 rfl rfl rfl rfl (v := (.int .u64 (rotr64 x 41))) (g_call (turn64_41 x) rfl rfl rfl Tryd.func62 nm62 bd62) ?_
  refine E_nil ?_
  refine ⟨?_, fun β1 w hM => ?_⟩
  · skip
    refine M_val rfl ?_
    refine M_val rfl ?_
    refine M_val rfl ?_
    refine M_val rfl ?_
    refine M_val rfl ?_
    refine M_val rfl ?_
    refine M_val rfl ?_
    refine M_val rfl ?_
    refine M_val rfl ?_
    refine M_val rfl ?_
    refine M_val rfl ?_
    refine M_val rfl ?_
    refine M_val rfl ?_
    refine M_val rfl ?_
    refine M_val rfl ?_
    refine M_val rfl ?_
    exact M_nil
  show wpList _ _ _ (_ :: _) (putAll _ (_)) _
  refine T_val 23 hn hM rfl rfl rfl (v := (.int .u64 (iXor .u64 (iXor .u64 (rotr64 x 14) (rotr64 x 18)) (rotr64 x 41)))) (g_int rfl rfl rfl rfl rfl) ?_
  refine T_val 6 hn hM rfl rfl rfl (v := (.int .u64 (iXor .u64 (iXor .u64 (rotr64 x 14) (rotr64 x 18)) (rotr64 x 41)))) (g_assign rfl rfl) ?_
  refine T_nil ?_
  refine wp_ret ?_
  refine leave (.inl rfl) hn hdf hM rfl Tryd.results53 (vs := [(.int .u64 (iXor .u64 (iXor .u64 (rotr64 x 14) (rotr64 x 18)) (rotr64 x 41)))]) (.tmp 6 rfl .nil) ?_
  exact ⟨rfl, hM.done⟩


set_option maxHeartbeats 1000000 in
set_option maxRecDepth 100000 in
theorem large64_28 (x : Int) : Pure 53 #[kind512V, (.int .u64 x), (.agg #[(.int .i64 28), (.int .i64 34), (.int .i64 39)])] (.int .u64 (large64 x 28 34 39)) := fun w0 => by
  refine enter Tryd.func53 rfl Tryd.ntmps53 (Nat.le_of_ble_eq_true rfl) fun A hn hdf => ?_
  have hM : Mem w0 [] w0 [] := Mem.start w0
  replace hM := hM
  refine wp_seq ?_
  refine wp_region_lit ?_
  refine T_box 3 hn hM rfl rfl rfl rfl rfl #[(.int .i64 64), (.int .i64 80), (.int .i64 1), (.int .i64 8), (.int .i64 7), (.int .i64 19), (.int .i64 61), (.int .i64 6), (.int .i64 28), (.int .i64 34), (.int .i64 39), (.int .i64 14), (.int .i64 18), (.int .i64 41)] rfl (fun b0 w hM => ?_)
  refine T_box 5 hn hM rfl rfl rfl rfl rfl #[(.int .i64 28), (.int .i64 34), (.int .i64 39)] rfl (fun b1 w hM => ?_)
  refine T_val 6 hn hM rfl rfl rfl (v := (.int .u64 0)) (g_assign rfl rfl) ?_
  refine T_nil ?_
  refine wp_seq ?_
  refine R_any [.val, .val, .val, .val, .val, .val, .val, .val, .val, .val, .val, .val, .val, .val, .val, .val] 16 [] [] hn hM rfl (by kernel_rfl) (by kernel_rfl) rfl rfl rfl ?_
  refine E_val 7 rfl rfl rfl rfl (v := (.agg #[(.int .i64 64), (.int .i64 80), (.int .i64 1), (.int .i64 8), (.int .i64 7), (.int .i64 19), (.int .i64 61), (.int .i64 6), (.int .i64 28), (.int .i64 34), (.int .i64 39), (.int .i64 14), (.int .i64 18), (.int .i64 41)])) (g_loadRow 1 [(.int .i64 64), (.int .i64 80), (.int .i64 1), (.int .i64 8), (.int .i64 7), (.int .i64 19), (.int .i64 61), (.int .i64 6), (.int .i64 28), (.int .i64 34), (.int .i64 39), (.int .i64 14), (.int .i64 18), (.int .i64 41)] rfl rfl rfl Tryd.underlying41 rfl sz41 rfl) ?_
  refine E_val 8 rfl rfl rfl rfl (v := (.int .u64 x)) (g_move rfl rfl) ?_
  refine E_val 9 rfl rfl rfl rfl (v := (.pointer (some ⟨b1, 0, none⟩))) (g_indexAddr 0 rfl rfl rfl Tryd.underlying39 Tryd.sizeOf3 (by decide) rfl) ?_
  refine E_val 10 rfl rfl rfl rfl (v := (.int .i64 28)) (g_loadOne 0 rfl rfl rfl Tryd.underlying3 rfl rfl) ?_
  refine E_call 11 rfl rfl rfl rfl (v := (.int .u64 (rotr64 x 28))) (g_call (turn64_28 x) rfl rfl rfl Tryd.func62 nm62 bd62) ?_
  refine E_val 12 rfl rfl rfl rfl (v := (.agg #[(.int .i64 64), (.int .i64 80), (.int .i64 1), (.int .i64 8), (.int .i64 7), (.int .i64 19), (.int .i64 61), (.int .i64 6), (.int .i64 28), (.int .i64 34), (.int .i64 39), (.int .i64 14), (.int .i64 18), (.int .i64 41)])) (g_loadRow 1 [(.int .i64 64), (.int .i64 80), (.int .i64 1), (.int .i64 8), (.int .i64 7), (.int .i64 19), (.int .i64 61), (.int .i64 6), (.int .i64 28), (.int .i64 34), (.int .i64 39), (.int .i64 14), (.int .i64 18), (.int .i64 41)] rfl rfl rfl Tryd.underlying41 rfl sz41 rfl) ?_
  refine E_val 13 rfl rfl rfl rfl (v := (.int .u64 x)) (g_move rfl rfl) ?_
  refine E_val 14 rfl rfl rfl rfl (v := (.pointer (some ⟨b1, 1, none⟩))) (g_indexAddr 1 rfl rfl rfl Tryd.underlying39 Tryd.sizeOf3 (by decide) rfl) ?_
  refine E_val 15 rfl rfl rfl rfl (v := (.int .i64 34)) (g_loadOne 0 rfl rfl rfl Tryd.underlying3 rfl rfl) ?_
  refine E_call 16 rfl rfl rfl rfl (v := (.int .u64 (rotr64 x 34))) (g_call (turn64_34 x) rfl rfl rfl Tryd.func62 nm62 bd62) ?_
  refine E_val 17 rfl rfl rfl rfl (v := (.int .u64 (iXor .u64 (rotr64 x 28) (rotr64 x 34)))) (g_int rfl rfl rfl rfl rfl) ?_
  refine E_val 18 rfl rfl rfl rfl (v := (.agg #[(.int .i64 64), (.int .i64 80), (.int .i64 1), (.int .i64 8), (.int .i64 7), (.int .i64 19), (.int .i64 61), (.int .i64 6), (.int .i64 28), (.int .i64 34), (.int .i64 39), (.int .i64 14), (.int .i64 18), (.int .i64 41)])) (g_loadRow 1 [(.int .i64 64), (.int .i64 80), (.int .i64 1), (.int .i64 8), (.int .i64 7), (.int .i64 19), (.int .i64 61), (.int .i64 6), (.int .i64 28), (.int .i64 34), (.int .i64 39), (.int .i64 14), (.int .i64 18), (.int .i64 41)] rfl rfl rfl Tryd.underlying41 rfl sz41 rfl) ?_
  refine E_val 19 rfl rfl rfl rfl (v := (.int .u64 x)) (g_move rfl rfl) ?_
  refine E_val 20 rfl rfl rfl rfl (v := (.pointer (some ⟨b1, 2, none⟩))) (g_indexAddr 2 rfl rfl rfl Tryd.underlying39 Tryd.sizeOf3 (by decide) rfl) ?_
  refine E_val 21 rfl rfl rfl rfl (v := (.int .i64 39)) (g_loadOne 0 rfl rfl rfl Tryd.underlying3 rfl rfl) ?_
  refine E_call 22 rfl rfl rfl rfl (v := (.int .u64 (rotr64 x 39))) (g_call (turn64_39 x) rfl rfl rfl Tryd.func62 nm62 bd62) ?_
  refine E_nil ?_
  refine ⟨?_, fun β1 w hM => ?_⟩
  · skip
    refine M_val rfl ?_
    refine M_val rfl ?_
    refine M_val rfl ?_
    refine M_val rfl ?_
    refine M_val rfl ?_
    refine M_val rfl ?_
    refine M_val rfl ?_
    refine M_val rfl ?_
    refine M_val rfl ?_
    refine M_val rfl ?_
    refine M_val rfl ?_
    refine M_val rfl ?_
    refine M_val rfl ?_
    refine M_val rfl ?_
    refine M_val rfl ?_
    refine M_val rfl ?_
    exact M_nil
  show wpList _ _ _ (_ :: _) (putAll _ (_)) _
  refine T_val 23 hn hM rfl rfl rfl (v := (.int .u64 (iXor .u64 (iXor .u64 (rotr64 x 28) (rotr64 x 34)) (rotr64 x 39)))) (g_int rfl rfl rfl rfl rfl) ?_
  refine T_val 6 hn hM rfl rfl rfl (v := (.int .u64 (iXor .u64 (iXor .u64 (rotr64 x 28) (rotr64 x 34)) (rotr64 x 39)))) (g_assign rfl rfl) ?_
  refine T_nil ?_
  refine wp_ret ?_
  refine leave (.inl rfl) hn hdf hM rfl Tryd.results53 (vs := [(.int .u64 (iXor .u64 (iXor .u64 (rotr64 x 28) (rotr64 x 34)) (rotr64 x 39)))]) (.tmp 6 rfl .nil) ?_
  exact ⟨rfl, hM.done⟩


set_option maxHeartbeats 1000000 in
set_option maxRecDepth 100000 in
theorem small64_19 (x : Int) : Pure 61 #[kind512V, (.int .u64 x), (.agg #[(.int .i64 19), (.int .i64 61), (.int .i64 6)])] (.int .u64 (small64 x 19 61 6)) := fun w0 => by
  refine enter Tryd.func61 rfl Tryd.ntmps61 (Nat.le_of_ble_eq_true rfl) fun A hn hdf => ?_
  have hM : Mem w0 [] w0 [] := Mem.start w0
  replace hM := hM
  refine wp_seq ?_
  refine wp_region_lit ?_
  refine T_box 3 hn hM rfl rfl rfl rfl rfl #[(.int .i64 64), (.int .i64 80), (.int .i64 1), (.int .i64 8), (.int .i64 7), (.int .i64 19), (.int .i64 61), (.int .i64 6), (.int .i64 28), (.int .i64 34), (.int .i64 39), (.int .i64 14), (.int .i64 18), (.int .i64 41)] rfl (fun b0 w hM => ?_)
  refine T_box 5 hn hM rfl rfl rfl rfl rfl #[(.int .i64 19), (.int .i64 61), (.int .i64 6)] rfl (fun b1 w hM => ?_)
  refine T_val 6 hn hM rfl rfl rfl (v := (.int .u64 0)) (g_assign rfl rfl) ?_
  refine T_nil ?_
  refine wp_seq ?_
  refine R_any [.val, .val, .val, .val, .val, .val, .val, .val, .val, .val, .val, .val, .val, .val, .val] 15 [] [] hn hM rfl (by kernel_rfl) (by kernel_rfl) rfl rfl rfl ?_
  refine E_val 7 rfl rfl rfl rfl (v := (.agg #[(.int .i64 64), (.int .i64 80), (.int .i64 1), (.int .i64 8), (.int .i64 7), (.int .i64 19), (.int .i64 61), (.int .i64 6), (.int .i64 28), (.int .i64 34), (.int .i64 39), (.int .i64 14), (.int .i64 18), (.int .i64 41)])) (g_loadRow 1 [(.int .i64 64), (.int .i64 80), (.int .i64 1), (.int .i64 8), (.int .i64 7), (.int .i64 19), (.int .i64 61), (.int .i64 6), (.int .i64 28), (.int .i64 34), (.int .i64 39), (.int .i64 14), (.int .i64 18), (.int .i64 41)] rfl rfl rfl Tryd.underlying41 rfl sz41 rfl) ?_
  refine E_val 8 rfl rfl rfl rfl (v := (.int .u64 x)) (g_move rfl rfl) ?_
  refine E_val 9 rfl rfl rfl rfl (v := (.pointer (some ⟨b1, 0, none⟩))) (g_indexAddr 0 rfl rfl rfl Tryd.underlying39 Tryd.sizeOf3 (by decide) rfl) ?_
  refine E_val 10 rfl rfl rfl rfl (v := (.int .i64 19)) (g_loadOne 0 rfl rfl rfl Tryd.underlying3 rfl rfl) ?_
  refine E_call 11 rfl rfl rfl rfl (v := (.int .u64 (rotr64 x 19))) (g_call (turn64_19 x) rfl rfl rfl Tryd.func62 nm62 bd62) ?_
  refine E_val 12 rfl rfl rfl rfl (v := (.agg #[(.int .i64 64), (.int .i64 80), (.int .i64 1), (.int .i64 8), (.int .i64 7), (.int .i64 19), (.int .i64 61), (.int .i64 6), (.int .i64 28), (.int .i64 34), (.int .i64 39), (.int .i64 14), (.int .i64 18), (.int .i64 41)])) (g_loadRow 1 [(.int .i64 64), (.int .i64 80), (.int .i64 1), (.int .i64 8), (.int .i64 7), (.int .i64 19), (.int .i64 61), (.int .i64 6), (.int .i64 28), (.int .i64 34), (.int .i64 39), (.int .i64 14), (.int .i64 18), (.int .i64 41)] rfl rfl rfl Tryd.underlying41 rfl sz41 rfl) ?_
  refine E_val 13 rfl rfl rfl rfl (v := (.int .u64 x)) (g_move rfl rfl) ?_
  refine E_val 14 rfl rfl rfl rfl (v := (.pointer (some ⟨b1, 1, none⟩))) (g_indexAddr 1 rfl rfl rfl Tryd.underlying39 Tryd.sizeOf3 (by decide) rfl) ?_
  refine E_val 15 rfl rfl rfl rfl (v := (.int .i64 61)) (g_loadOne 0 rfl rfl rfl Tryd.underlying3 rfl rfl) ?_
  refine E_call 16 rfl rfl rfl rfl (v := (.int .u64 (rotr64 x 61))) (g_call (turn64_61 x) rfl rfl rfl Tryd.func62 nm62 bd62) ?_
  refine E_val 17 rfl rfl rfl rfl (v := (.int .u64 (iXor .u64 (rotr64 x 19) (rotr64 x 61)))) (g_int rfl rfl rfl rfl rfl) ?_
  refine E_val 18 rfl rfl rfl rfl (v := (.int .u64 x)) (g_move rfl rfl) ?_
  refine E_val 19 rfl rfl rfl rfl (v := (.pointer (some ⟨b1, 2, none⟩))) (g_indexAddr 2 rfl rfl rfl Tryd.underlying39 Tryd.sizeOf3 (by decide) rfl) ?_
  refine E_val 20 rfl rfl rfl rfl (v := (.int .i64 6)) (g_loadOne 0 rfl rfl rfl Tryd.underlying3 rfl rfl) ?_
  refine E_val 21 rfl rfl rfl rfl (v := (.int .u64 (iShr .u64 x 6))) (g_shr (n := 6) rfl rfl rfl rfl) ?_
  refine E_nil ?_
  refine ⟨?_, fun β1 w hM => ?_⟩
  · skip
    refine M_val rfl ?_
    refine M_val rfl ?_
    refine M_val rfl ?_
    refine M_val rfl ?_
    refine M_val rfl ?_
    refine M_val rfl ?_
    refine M_val rfl ?_
    refine M_val rfl ?_
    refine M_val rfl ?_
    refine M_val rfl ?_
    refine M_val rfl ?_
    refine M_val rfl ?_
    refine M_val rfl ?_
    refine M_val rfl ?_
    refine M_val rfl ?_
    exact M_nil
  show wpList _ _ _ (_ :: _) (putAll _ (_)) _
  refine T_val 22 hn hM rfl rfl rfl (v := (.int .u64 (iXor .u64 (iXor .u64 (rotr64 x 19) (rotr64 x 61)) (iShr .u64 x 6)))) (g_int rfl rfl rfl rfl rfl) ?_
  refine T_val 6 hn hM rfl rfl rfl (v := (.int .u64 (iXor .u64 (iXor .u64 (rotr64 x 19) (rotr64 x 61)) (iShr .u64 x 6)))) (g_assign rfl rfl) ?_
  refine T_nil ?_
  refine wp_ret ?_
  refine leave (.inl rfl) hn hdf hM rfl Tryd.results61 (vs := [(.int .u64 (iXor .u64 (iXor .u64 (rotr64 x 19) (rotr64 x 61)) (iShr .u64 x 6)))]) (.tmp 6 rfl .nil) ?_
  exact ⟨rfl, hM.done⟩


set_option maxHeartbeats 1000000 in
set_option maxRecDepth 100000 in
theorem small64_1 (x : Int) : Pure 61 #[kind512V, (.int .u64 x), (.agg #[(.int .i64 1), (.int .i64 8), (.int .i64 7)])] (.int .u64 (small64 x 1 8 7)) := fun w0 => by
  refine enter Tryd.func61 rfl Tryd.ntmps61 (Nat.le_of_ble_eq_true rfl) fun A hn hdf => ?_
  have hM : Mem w0 [] w0 [] := Mem.start w0
  replace hM := hM
  refine wp_seq ?_
  refine wp_region_lit ?_
  refine T_box 3 hn hM rfl rfl rfl rfl rfl #[(.int .i64 64), (.int .i64 80), (.int .i64 1), (.int .i64 8), (.int .i64 7), (.int .i64 19), (.int .i64 61), (.int .i64 6), (.int .i64 28), (.int .i64 34), (.int .i64 39), (.int .i64 14), (.int .i64 18), (.int .i64 41)] rfl (fun b0 w hM => ?_)
  refine T_box 5 hn hM rfl rfl rfl rfl rfl #[(.int .i64 1), (.int .i64 8), (.int .i64 7)] rfl (fun b1 w hM => ?_)
  refine T_val 6 hn hM rfl rfl rfl (v := (.int .u64 0)) (g_assign rfl rfl) ?_
  refine T_nil ?_
  refine wp_seq ?_
  refine R_any [.val, .val, .val, .val, .val, .val, .val, .val, .val, .val, .val, .val, .val, .val, .val] 15 [] [] hn hM rfl (by kernel_rfl) (by kernel_rfl) rfl rfl rfl ?_
  refine E_val 7 rfl rfl rfl rfl (v := (.agg #[(.int .i64 64), (.int .i64 80), (.int .i64 1), (.int .i64 8), (.int .i64 7), (.int .i64 19), (.int .i64 61), (.int .i64 6), (.int .i64 28), (.int .i64 34), (.int .i64 39), (.int .i64 14), (.int .i64 18), (.int .i64 41)])) (g_loadRow 1 [(.int .i64 64), (.int .i64 80), (.int .i64 1), (.int .i64 8), (.int .i64 7), (.int .i64 19), (.int .i64 61), (.int .i64 6), (.int .i64 28), (.int .i64 34), (.int .i64 39), (.int .i64 14), (.int .i64 18), (.int .i64 41)] rfl rfl rfl Tryd.underlying41 rfl sz41 rfl) ?_
  refine E_val 8 rfl rfl rfl rfl (v := (.int .u64 x)) (g_move rfl rfl) ?_
  refine E_val 9 rfl rfl rfl rfl (v := (.pointer (some ⟨b1, 0, none⟩))) (g_indexAddr 0 rfl rfl rfl Tryd.underlying39 Tryd.sizeOf3 (by decide) rfl) ?_
  refine E_val 10 rfl rfl rfl rfl (v := (.int .i64 1)) (g_loadOne 0 rfl rfl rfl Tryd.underlying3 rfl rfl) ?_
  refine E_call 11 rfl rfl rfl rfl (v := (.int .u64 (rotr64 x 1))) (g_call (turn64_1 x) rfl rfl rfl Tryd.func62 nm62 bd62) ?_
  refine E_val 12 rfl rfl rfl rfl (v := (.agg #[(.int .i64 64), (.int .i64 80), (.int .i64 1), (.int .i64 8), (.int .i64 7), (.int .i64 19), (.int .i64 61), (.int .i64 6), (.int .i64 28), (.int .i64 34), (.int .i64 39), (.int .i64 14), (.int .i64 18), (.int .i64 41)])) (g_loadRow 1 [(.int .i64 64), (.int .i64 80), (.int .i64 1), (.int .i64 8), (.int .i64 7), (.int .i64 19), (.int .i64 61), (.int .i64 6), (.int .i64 28), (.int .i64 34), (.int .i64 39), (.int .i64 14), (.int .i64 18), (.int .i64 41)] rfl rfl rfl Tryd.underlying41 rfl sz41 rfl) ?_
  refine E_val 13 rfl rfl rfl rfl (v := (.int .u64 x)) (g_move rfl rfl) ?_
  refine E_val 14 rfl rfl rfl rfl (v := (.pointer (some ⟨b1, 1, none⟩))) (g_indexAddr 1 rfl rfl rfl Tryd.underlying39 Tryd.sizeOf3 (by decide) rfl) ?_
  refine E_val 15 rfl rfl rfl rfl (v := (.int .i64 8)) (g_loadOne 0 rfl rfl rfl Tryd.underlying3 rfl rfl) ?_
  refine E_call 16 rfl rfl rfl rfl (v := (.int .u64 (rotr64 x 8))) (g_call (turn64_8 x) rfl rfl rfl Tryd.func62 nm62 bd62) ?_
  refine E_val 17 rfl rfl rfl rfl (v := (.int .u64 (iXor .u64 (rotr64 x 1) (rotr64 x 8)))) (g_int rfl rfl rfl rfl rfl) ?_
  refine E_val 18 rfl rfl rfl rfl (v := (.int .u64 x)) (g_move rfl rfl) ?_
  refine E_val 19 rfl rfl rfl rfl (v := (.pointer (some ⟨b1, 2, none⟩))) (g_indexAddr 2 rfl rfl rfl Tryd.underlying39 Tryd.sizeOf3 (by decide) rfl) ?_
  refine E_val 20 rfl rfl rfl rfl (v := (.int .i64 7)) (g_loadOne 0 rfl rfl rfl Tryd.underlying3 rfl rfl) ?_
  refine E_val 21 rfl rfl rfl rfl (v := (.int .u64 (iShr .u64 x 7))) (g_shr (n := 7) rfl rfl rfl rfl) ?_
  refine E_nil ?_
  refine ⟨?_, fun β1 w hM => ?_⟩
  · skip
    refine M_val rfl ?_
    refine M_val rfl ?_
    refine M_val rfl ?_
    refine M_val rfl ?_
    refine M_val rfl ?_
    refine M_val rfl ?_
    refine M_val rfl ?_
    refine M_val rfl ?_
    refine M_val rfl ?_
    refine M_val rfl ?_
    refine M_val rfl ?_
    refine M_val rfl ?_
    refine M_val rfl ?_
    refine M_val rfl ?_
    refine M_val rfl ?_
    exact M_nil
  show wpList _ _ _ (_ :: _) (putAll _ (_)) _
  refine T_val 22 hn hM rfl rfl rfl (v := (.int .u64 (iXor .u64 (iXor .u64 (rotr64 x 1) (rotr64 x 8)) (iShr .u64 x 7)))) (g_int rfl rfl rfl rfl rfl) ?_
  refine T_val 6 hn hM rfl rfl rfl (v := (.int .u64 (iXor .u64 (iXor .u64 (rotr64 x 1) (rotr64 x 8)) (iShr .u64 x 7)))) (g_assign rfl rfl) ?_
  refine T_nil ?_
  refine wp_ret ?_
  refine leave (.inl rfl) hn hdf hM rfl Tryd.results61 (vs := [(.int .u64 (iXor .u64 (iXor .u64 (rotr64 x 1) (rotr64 x 8)) (iShr .u64 x 7)))]) (.tmp 6 rfl .nil) ?_
  exact ⟨rfl, hM.done⟩

end Go.Proofs.YtbonnnakebfniaaDoor

/- sha2: schedule, mix. -/
namespace Go.Proofs.YtbonnnakebfniaaDoor
open Go Go.RowKit Num Mx


theorem nm54 : (Tryd.f54.name == "runtime.NumGoroutine") = false := by kernel_rfl
theorem bd54 : Tryd.f54.body.isNone = false := by kernel_rfl
theorem nm61 : (Tryd.f61.name == "runtime.NumGoroutine") = false := by kernel_rfl
theorem bd61 : Tryd.f61.body.isNone = false := by kernel_rfl
theorem sz39 : (Tryd.prog.info? 39).map (·.size) = some 3 := by kernel_rfl
theorem sz101 : (Tryd.prog.info? 101).map (·.size) = some 80 := by kernel_rfl

set_option maxHeartbeats 1000000 in
set_option maxRecDepth 100000 in
theorem schedule_E (s : ByteArray) (hs : s.size = 128) : Pure 52 #[kind512V, (.string s)] (.agg (arr .u64 80 (schS s 80))) := fun w0 => by
  refine enter Tryd.func52 rfl Tryd.ntmps52 (Nat.le_of_ble_eq_true rfl) fun A hn hdf => ?_
  have hM : Mem w0 [] w0 [] := Mem.start w0
  replace hM := hM
  refine wp_seq ?_
  refine wp_region_lit ?_
  refine T_box 2 hn hM rfl rfl rfl rfl rfl #[(.int .i64 64), (.int .i64 80), (.int .i64 1), (.int .i64 8), (.int .i64 7), (.int .i64 19), (.int .i64 61), (.int .i64 6), (.int .i64 28), (.int .i64 34), (.int .i64 39), (.int .i64 14), (.int .i64 18), (.int .i64 41)] rfl (fun b0 w hM => ?_)
  refine T_alloc 4 hn hM rfl rfl rfl rfl Tryd.zeroValue101 (arr .u64 80 (fun _ => 0)) (by rfl) (fun b1 w hM => ?_)
  refine T_nil ?_
  refine wp_seq ?_
  refine wp_region_lit ?_
  refine T_alloc 5 hn hM rfl rfl rfl rfl Tryd.zeroValue101 (arr .u64 80 (fun _ => 0)) (by rfl) (fun b2 w hM => ?_)
  refine T_nil ?_
  refine wp_seq ?_
  refine wp_region_lit ?_
  refine T_val 9 hn hM rfl rfl rfl (v := (.pointer (some ⟨b0, 0, none⟩))) (g_fieldAddr rfl rfl Tryd.underlying41 rfl Tryd.sizeOf3 0 rfl) ?_
  refine T_val 10 hn hM rfl rfl rfl (v := (.int .i64 64)) (g_loadOne 2 rfl rfl rfl Tryd.underlying3 rfl rfl) ?_
  refine T_val 11 hn hM rfl rfl rfl (v := (.int .i64 8)) (g_quo rfl rfl rfl (by decide) (by decide)) ?_
  refine T_val 6 hn hM rfl rfl rfl (v := (.int .i64 8)) (g_assign rfl rfl) ?_
  refine T_nil ?_
  refine wp_seq ?_
  refine wp_seq ?_
  refine wp_region_lit ?_
  refine T_val 12 hn hM rfl rfl rfl (v := (.pointer (some ⟨b0, 1, none⟩))) (g_fieldAddr rfl rfl Tryd.underlying41 rfl Tryd.sizeOf3 1 rfl) ?_
  refine T_val 13 hn hM rfl rfl rfl (v := (.int .i64 80)) (g_loadOne 2 rfl rfl rfl Tryd.underlying3 rfl rfl) ?_
  refine T_val 14 hn hM rfl rfl rfl (v := (.int .i64 0)) (g_move rfl rfl) ?_
  refine T_nil ?_
  refine wp_block ?_
  refine C_loop (fun t a w => ∃ A : Act, A.tmps.size = 72 ∧ A.defers = [] ∧ a = putAll A [(1, (.string s)), (2, (.pointer (some ⟨b0, 0, none⟩))), (4, (.pointer (some ⟨b1, 0, none⟩))), (5, (.pointer (some ⟨b2, 0, none⟩))), (6, (.int .i64 8)), (13, (.int .i64 80)), (14, (.int .i64 ((t : Nat) : Int)))] ∧ Mem w0 [] w [⟨b2, (arr .u64 80 (schS s t)), 101, true⟩, ⟨b1, (arr .u64 80 (fun _ => 0)), 101, true⟩, ⟨b0, #[(.int .i64 64), (.int .i64 80), (.int .i64 1), (.int .i64 8), (.int .i64 7), (.int .i64 19), (.int .i64 61), (.int .i64 6), (.int .i64 28), (.int .i64 34), (.int .i64 39), (.int .i64 14), (.int .i64 18), (.int .i64 41)], 41, true⟩]) 80 ?_ ?_ ?_
  · skip
    exact frame_ex [(1, (.string s)), (2, (.pointer (some ⟨b0, 0, none⟩))), (4, (.pointer (some ⟨b1, 0, none⟩))), (5, (.pointer (some ⟨b2, 0, none⟩))), (6, (.int .i64 8)), (13, (.int .i64 80)), (14, (.int .i64 ((0 : Nat) : Int)))] hn hdf rfl rfl ⟨rfl, rfl, rfl, rfl, rfl, rfl, rfl, trivial⟩ hM
  · intro t ht a w hI
    obtain ⟨A, hn, hdf, rfl, hM⟩ := hI
    refine wp_seq ?_
    refine wp_region_lit ?_
    refine T_val 15 hn hM rfl rfl rfl (v := (.bool true)) (g_int rfl rfl rfl rfl (lss_nat t 80 true (decide_eq_true (by omega)))) ?_
    refine T_nil ?_
    refine wp_seq ?_
    refine C_condT hn rfl rfl ?_
    refine wp_skip ?_
    refine x_next ?_
    refine wp_seq ?_
    refine wp_block ?_
    refine wp_seq ?_
    refine wp_region_lit ?_
    refine T_val 16 hn hM rfl rfl rfl (v := (.int .i64 ((t : Nat) : Int))) (g_move rfl rfl) ?_
    refine T_val 7 hn hM rfl rfl rfl (v := (.int .i64 ((t : Nat) : Int))) (g_assign rfl rfl) ?_
    refine T_nil ?_
    refine wp_seq ?_
    refine wp_seq ?_
    refine wp_region_lit ?_
    refine T_val 17 hn hM rfl rfl rfl (v := (.int .i64 ((t : Nat) : Int))) (g_move rfl rfl) ?_
    by_cases hsp : t < 16
    · skip
      refine T_val 18 hn hM rfl rfl rfl (v := (.bool true)) (g_int rfl rfl rfl rfl (lss_nat t 16 true (decide_eq_true hsp))) ?_
      refine T_nil ?_
      refine C_condT hn rfl rfl ?_
      refine wp_seq ?_
      refine wp_seq ?_
      refine wp_region_lit ?_
      refine T_val 19 hn hM rfl rfl rfl (v := (.int .i64 8)) (g_move rfl rfl) ?_
      refine T_val 20 hn hM rfl rfl rfl (v := (.int .i64 0)) (g_move rfl rfl) ?_
      refine T_nil ?_
      refine wp_block ?_
      refine C_loop (fun k a w => ∃ A : Act, A.tmps.size = 72 ∧ A.defers = [] ∧ a = putAll A [(1, (.string s)), (2, (.pointer (some ⟨b0, 0, none⟩))), (4, (.pointer (some ⟨b1, 0, none⟩))), (5, (.pointer (some ⟨b2, 0, none⟩))), (6, (.int .i64 8)), (7, (.int .i64 ((t : Nat) : Int))), (13, (.int .i64 80)), (14, (.int .i64 ((t : Nat) : Int))), (19, (.int .i64 8)), (20, (.int .i64 ((k : Nat) : Int)))] ∧ Mem w0 [] w [⟨b2, (arr .u64 80 (schIn s t (schS s t) k)), 101, true⟩, ⟨b1, (arr .u64 80 (fun _ => 0)), 101, true⟩, ⟨b0, #[(.int .i64 64), (.int .i64 80), (.int .i64 1), (.int .i64 8), (.int .i64 7), (.int .i64 19), (.int .i64 61), (.int .i64 6), (.int .i64 28), (.int .i64 34), (.int .i64 39), (.int .i64 14), (.int .i64 18), (.int .i64 41)], 41, true⟩]) 8 ?_ ?_ ?_
      · skip
        exact frame_ex [(1, (.string s)), (2, (.pointer (some ⟨b0, 0, none⟩))), (4, (.pointer (some ⟨b1, 0, none⟩))), (5, (.pointer (some ⟨b2, 0, none⟩))), (6, (.int .i64 8)), (7, (.int .i64 ((t : Nat) : Int))), (13, (.int .i64 80)), (14, (.int .i64 ((t : Nat) : Int))), (19, (.int .i64 8)), (20, (.int .i64 ((0 : Nat) : Int)))] hn hdf rfl rfl ⟨rfl, rfl, rfl, rfl, rfl, rfl, rfl, rfl, rfl, rfl, trivial⟩ hM
      · intro k hk a w hI
        obtain ⟨A, hn, hdf, rfl, hM⟩ := hI
        refine wp_seq ?_
        refine wp_region_lit ?_
        refine T_val 21 hn hM rfl rfl rfl (v := (.bool true)) (g_int rfl rfl rfl rfl (lss_nat k 8 true (decide_eq_true (by omega)))) ?_
        refine T_nil ?_
        refine wp_seq ?_
        refine C_condT hn rfl rfl ?_
        refine wp_skip ?_
        refine x_next ?_
        refine wp_seq ?_
        refine wp_block ?_
        refine wp_seq ?_
        refine wp_region_lit ?_
        refine T_val 22 hn hM rfl rfl rfl (v := (.int .i64 ((k : Nat) : Int))) (g_move rfl rfl) ?_
        refine T_val 8 hn hM rfl rfl rfl (v := (.int .i64 ((k : Nat) : Int))) (g_assign rfl rfl) ?_
        refine T_nil ?_
        refine R_any [.val, .val, .val, .val, .val, .val, .val, .val, .val, .val, .val, .val, .val, .val] 14 [] [] hn hM rfl (by kernel_rfl) (by kernel_rfl) rfl rfl rfl ?_
        refine E_val 23 rfl rfl rfl rfl (v := (.int .i64 ((t : Nat) : Int))) (g_move rfl rfl) ?_
        refine E_val 24 rfl rfl rfl rfl (v := (.int .i64 ((t : Nat) : Int))) (g_move rfl rfl) ?_
        refine E_val 25 rfl rfl rfl rfl (v := (.pointer (some ⟨b2, t, none⟩))) (g_indexAddrN t t rfl rfl rfl Tryd.underlying101 Tryd.sizeOf27 (by omega) (by omega)) ?_
        refine E_val 26 rfl rfl rfl rfl (v := (.int .u64 ((schIn s t (schS s t) k) t))) (g_loadOne 0 rfl rfl rfl Tryd.underlying27 rfl (arr_get (by omega))) ?_
        refine E_val 27 rfl rfl rfl rfl (v := (.int .u64 (iShl .u64 ((schIn s t (schS s t) k) t) 8))) (g_shl (n := 8) rfl rfl rfl rfl) ?_
        refine E_val 28 rfl rfl rfl rfl (v := (.string s)) (g_move rfl rfl) ?_
        refine E_val 29 rfl rfl rfl rfl (v := (.int .i64 ((t : Nat) : Int))) (g_move rfl rfl) ?_
        refine E_val 30 rfl rfl rfl rfl (v := (.int .i64 8)) (g_move rfl rfl) ?_
        refine E_val 31 rfl rfl rfl rfl (v := (.int .i64 ((t * 8 : Nat) : Int))) (g_int rfl rfl rfl rfl (mul_nat t 8 (by simp only [bitsOf]; omega))) ?_
        refine E_val 32 rfl rfl rfl rfl (v := (.int .i64 ((k : Nat) : Int))) (g_move rfl rfl) ?_
        refine E_val 33 rfl rfl rfl rfl (v := (.int .i64 (((t * 8) + k : Nat) : Int))) (g_int rfl rfl rfl rfl (add_nat (t * 8) k (by simp only [bitsOf]; omega))) ?_
        refine E_val 34 rfl rfl rfl rfl (v := (.int .u8 (sByte s (t * 8 + k)))) (g_indexS (t * 8 + k) rfl rfl rfl Tryd.underlying9 (by omega)) ?_
        refine E_val 35 rfl rfl rfl rfl (v := (.int .u64 (iCut .u64 (sByte s (t * 8 + k))))) (g_convInt rfl rfl Tryd.underlying5 Tryd.underlying27 rfl) ?_
        refine E_val 36 rfl rfl rfl rfl (v := (.int .u64 (iOr .u64 (iShl .u64 ((schIn s t (schS s t) k) t) 8) (iCut .u64 (sByte s (t * 8 + k)))))) (g_int rfl rfl rfl rfl rfl) ?_
        refine E_nil ?_
        refine ⟨?_, fun β1 w hM => ?_⟩
        · skip
          refine M_val rfl ?_
          refine M_val rfl ?_
          refine M_val rfl ?_
          refine M_val rfl ?_
          refine M_val rfl ?_
          refine M_val rfl ?_
          refine M_val rfl ?_
          refine M_val rfl ?_
          refine M_val rfl ?_
          refine M_val rfl ?_
          refine M_val rfl ?_
          refine M_val rfl ?_
          refine M_val rfl ?_
          refine M_val rfl ?_
          exact M_nil
        show wpList _ _ _ (_ :: _) (putAll _ (_)) _
        refine T_val 37 hn hM rfl rfl rfl (v := (.pointer (some ⟨b2, t, none⟩))) (g_indexAddrN t t rfl rfl rfl Tryd.underlying101 Tryd.sizeOf27 (by omega) (by omega)) ?_
        refine T_store 0 hn hM rfl rfl rfl rfl rfl rfl rfl (c' := (arr .u64 80 (schIn s t (schS s t) (k + 1)))) (sets_arr sz27 (by omega) (fun q _ => rfl)) (fun w hM => ?_)
        replace hM : Mem _ _ w [⟨b2, (arr .u64 80 (schIn s t (schS s t) (k + 1))), 101, true⟩, ⟨b1, (arr .u64 80 (fun _ => 0)), 101, true⟩, ⟨b0, #[(.int .i64 64), (.int .i64 80), (.int .i64 1), (.int .i64 8), (.int .i64 7), (.int .i64 19), (.int .i64 61), (.int .i64 6), (.int .i64 28), (.int .i64 34), (.int .i64 39), (.int .i64 14), (.int .i64 18), (.int .i64 41)], 41, true⟩] := hM
        refine T_end ?_
        refine x_norm ?_
        refine x_next ?_
        refine wp_region_lit ?_
        refine T_val 38 hn hM rfl rfl rfl (v := (.int .i64 ((k + 1 : Nat) : Int))) (g_int rfl rfl rfl rfl (add_nat k 1 (by simp only [bitsOf]; omega))) ?_
        refine T_val 20 hn hM rfl rfl rfl (v := (.int .i64 ((k + 1 : Nat) : Int))) (g_move rfl rfl) ?_
        refine T_nil ?_
        exact frame_ex [(1, (.string s)), (2, (.pointer (some ⟨b0, 0, none⟩))), (4, (.pointer (some ⟨b1, 0, none⟩))), (5, (.pointer (some ⟨b2, 0, none⟩))), (6, (.int .i64 8)), (7, (.int .i64 ((t : Nat) : Int))), (13, (.int .i64 80)), (14, (.int .i64 ((t : Nat) : Int))), (19, (.int .i64 8)), (20, (.int .i64 (((k + 1) : Nat) : Int)))] hn hdf rfl rfl ⟨rfl, rfl, rfl, rfl, rfl, rfl, rfl, rfl, rfl, rfl, trivial⟩ hM
      · intro a w hI
        obtain ⟨A, hn, hdf, rfl, hM⟩ := hI
        refine wp_seq ?_
        refine wp_region_lit ?_
        refine T_val 21 hn hM rfl rfl rfl (v := (.bool false)) (g_int rfl rfl rfl rfl (lss_nat 8 8 false (decide_eq_false (by omega)))) ?_
        refine T_nil ?_
        refine wp_seq ?_
        refine C_condF hn rfl rfl ?_
        refine wp_exit ?_
        refine x_thenE ?_
        refine x_thenE ?_
        refine x_in ?_
        refine x_next ?_
        refine wp_exit ?_
        refine x_thenE ?_
        refine x_in ?_
        refine x_next ?_
        refine wp_region_lit ?_
        refine T_val 70 hn hM rfl rfl rfl (v := (.int .i64 ((t + 1 : Nat) : Int))) (g_int rfl rfl rfl rfl (add_nat t 1 (by simp only [bitsOf]; omega))) ?_
        refine T_val 14 hn hM rfl rfl rfl (v := (.int .i64 ((t + 1 : Nat) : Int))) (g_move rfl rfl) ?_
        refine T_nil ?_
        have hM2 := hM.sub [⟨b2, (arr .u64 80 (schIn s t (schS s t) 8)), 101, true⟩, ⟨b1, (arr .u64 80 (fun _ => 0)), 101, true⟩, ⟨b0, #[(.int .i64 64), (.int .i64 80), (.int .i64 1), (.int .i64 8), (.int .i64 7), (.int .i64 19), (.int .i64 61), (.int .i64 6), (.int .i64 28), (.int .i64 34), (.int .i64 39), (.int .i64 14), (.int .i64 18), (.int .i64 41)], 41, true⟩] ((List.Sublist.refl _))
        replace hM : Mem w0 [] w [⟨b2, (arr .u64 80 (schS s (t + 1))), 101, true⟩, ⟨b1, (arr .u64 80 (fun _ => 0)), 101, true⟩, ⟨b0, #[(.int .i64 64), (.int .i64 80), (.int .i64 1), (.int .i64 8), (.int .i64 7), (.int .i64 19), (.int .i64 61), (.int .i64 6), (.int .i64 28), (.int .i64 34), (.int .i64 39), (.int .i64 14), (.int .i64 18), (.int .i64 41)], 41, true⟩] := by rw [schS_lt hsp]; exact hM
        exact frame_ex [(1, (.string s)), (2, (.pointer (some ⟨b0, 0, none⟩))), (4, (.pointer (some ⟨b1, 0, none⟩))), (5, (.pointer (some ⟨b2, 0, none⟩))), (6, (.int .i64 8)), (13, (.int .i64 80)), (14, (.int .i64 (((t + 1) : Nat) : Int)))] hn hdf rfl rfl ⟨rfl, rfl, rfl, rfl, rfl, rfl, rfl, trivial⟩ hM
    · skip
      refine T_val 18 hn hM rfl rfl rfl (v := (.bool false)) (g_int rfl rfl rfl rfl (lss_nat t 16 false (decide_eq_false hsp))) ?_
      refine T_nil ?_
      refine C_condF hn rfl rfl ?_
      refine wp_skip ?_
      refine x_next ?_
      refine R_any [.val, .val, .val, .val, .val, .val, .val, .val, .val, .val, .val, .val, .val, .val, .val, .val, .val, .val, .val, .val, .val, .val, .val, .val, .val, .val, .val, .val, .val, .val] 30 [] [] hn hM rfl (by kernel_rfl) (by kernel_rfl) rfl rfl rfl ?_
      refine E_val 39 rfl rfl rfl rfl (v := (.int .i64 ((t : Nat) : Int))) (g_move rfl rfl) ?_
      refine E_val 40 rfl rfl rfl rfl (v := (.agg #[(.int .i64 64), (.int .i64 80), (.int .i64 1), (.int .i64 8), (.int .i64 7), (.int .i64 19), (.int .i64 61), (.int .i64 6), (.int .i64 28), (.int .i64 34), (.int .i64 39), (.int .i64 14), (.int .i64 18), (.int .i64 41)])) (g_loadRow 2 [(.int .i64 64), (.int .i64 80), (.int .i64 1), (.int .i64 8), (.int .i64 7), (.int .i64 19), (.int .i64 61), (.int .i64 6), (.int .i64 28), (.int .i64 34), (.int .i64 39), (.int .i64 14), (.int .i64 18), (.int .i64 41)] rfl rfl rfl Tryd.underlying41 rfl sz41 rfl) ?_
      refine E_val 41 rfl rfl rfl rfl (v := (.agg #[(.int .i64 64), (.int .i64 80), (.int .i64 1), (.int .i64 8), (.int .i64 7), (.int .i64 19), (.int .i64 61), (.int .i64 6), (.int .i64 28), (.int .i64 34), (.int .i64 39), (.int .i64 14), (.int .i64 18), (.int .i64 41)])) (g_loadRow 2 [(.int .i64 64), (.int .i64 80), (.int .i64 1), (.int .i64 8), (.int .i64 7), (.int .i64 19), (.int .i64 61), (.int .i64 6), (.int .i64 28), (.int .i64 34), (.int .i64 39), (.int .i64 14), (.int .i64 18), (.int .i64 41)] rfl rfl rfl Tryd.underlying41 rfl sz41 rfl) ?_
      refine E_val 42 rfl rfl rfl rfl (v := (.int .i64 ((t : Nat) : Int))) (g_move rfl rfl) ?_
      refine E_val 43 rfl rfl rfl rfl (v := (.int .i64 ((t - 2 : Nat) : Int))) (g_int rfl rfl rfl rfl (subN t 2 (by omega))) ?_
      refine E_val 44 rfl rfl rfl rfl (v := (.pointer (some ⟨b2, t - 2, none⟩))) (g_indexAddrN (t - 2) (t - 2) rfl rfl rfl Tryd.underlying101 Tryd.sizeOf27 (by omega) (by omega)) ?_
      refine E_val 45 rfl rfl rfl rfl (v := (.int .u64 ((schS s t) (t - 2)))) (g_loadOne 0 rfl rfl rfl Tryd.underlying27 rfl (arr_get (by omega))) ?_
      refine E_val 46 rfl rfl rfl rfl (v := (.pointer (some ⟨b0, 5, none⟩))) (g_fieldAddr rfl rfl Tryd.underlying41 rfl Tryd.sizeOf39 5 rfl) ?_
      refine E_val 47 rfl rfl rfl rfl (v := (.agg #[(.int .i64 19), (.int .i64 61), (.int .i64 6)])) (g_loadRow 2 [(.int .i64 19), (.int .i64 61), (.int .i64 6)] rfl rfl rfl Tryd.underlying39 rfl sz39 rfl) ?_
      refine E_call 48 rfl rfl rfl rfl (v := (.int .u64 (small64 ((schS s t) (t - 2)) 19 61 6))) (g_call (small64_19 _) rfl rfl rfl Tryd.func61 nm61 bd61) ?_
      refine E_val 49 rfl rfl rfl rfl (v := (.int .i64 ((t : Nat) : Int))) (g_move rfl rfl) ?_
      refine E_val 50 rfl rfl rfl rfl (v := (.int .i64 ((t - 7 : Nat) : Int))) (g_int rfl rfl rfl rfl (subN t 7 (by omega))) ?_
      refine E_val 51 rfl rfl rfl rfl (v := (.pointer (some ⟨b2, t - 7, none⟩))) (g_indexAddrN (t - 7) (t - 7) rfl rfl rfl Tryd.underlying101 Tryd.sizeOf27 (by omega) (by omega)) ?_
      refine E_val 52 rfl rfl rfl rfl (v := (.int .u64 ((schS s t) (t - 7)))) (g_loadOne 0 rfl rfl rfl Tryd.underlying27 rfl (arr_get (by omega))) ?_
      refine E_val 53 rfl rfl rfl rfl (v := (.int .u64 (iAdd .u64 (small64 ((schS s t) (t - 2)) 19 61 6) ((schS s t) (t - 7))))) (g_int rfl rfl rfl rfl rfl) ?_
      refine E_val 54 rfl rfl rfl rfl (v := (.agg #[(.int .i64 64), (.int .i64 80), (.int .i64 1), (.int .i64 8), (.int .i64 7), (.int .i64 19), (.int .i64 61), (.int .i64 6), (.int .i64 28), (.int .i64 34), (.int .i64 39), (.int .i64 14), (.int .i64 18), (.int .i64 41)])) (g_loadRow 2 [(.int .i64 64), (.int .i64 80), (.int .i64 1), (.int .i64 8), (.int .i64 7), (.int .i64 19), (.int .i64 61), (.int .i64 6), (.int .i64 28), (.int .i64 34), (.int .i64 39), (.int .i64 14), (.int .i64 18), (.int .i64 41)] rfl rfl rfl Tryd.underlying41 rfl sz41 rfl) ?_
      refine E_val 55 rfl rfl rfl rfl (v := (.int .i64 ((t : Nat) : Int))) (g_move rfl rfl) ?_
      refine E_val 56 rfl rfl rfl rfl (v := (.int .i64 ((t - 15 : Nat) : Int))) (g_int rfl rfl rfl rfl (subN t 15 (by omega))) ?_
      refine E_val 57 rfl rfl rfl rfl (v := (.pointer (some ⟨b2, t - 15, none⟩))) (g_indexAddrN (t - 15) (t - 15) rfl rfl rfl Tryd.underlying101 Tryd.sizeOf27 (by omega) (by omega)) ?_
      refine E_val 58 rfl rfl rfl rfl (v := (.int .u64 ((schS s t) (t - 15)))) (g_loadOne 0 rfl rfl rfl Tryd.underlying27 rfl (arr_get (by omega))) ?_
      refine E_val 59 rfl rfl rfl rfl (v := (.pointer (some ⟨b0, 2, none⟩))) (g_fieldAddr rfl rfl Tryd.underlying41 rfl Tryd.sizeOf39 2 rfl) ?_
      refine E_val 60 rfl rfl rfl rfl (v := (.agg #[(.int .i64 1), (.int .i64 8), (.int .i64 7)])) (g_loadRow 2 [(.int .i64 1), (.int .i64 8), (.int .i64 7)] rfl rfl rfl Tryd.underlying39 rfl sz39 rfl) ?_
      refine E_call 61 rfl rfl rfl rfl (v := (.int .u64 (small64 ((schS s t) (t - 15)) 1 8 7))) (g_call (small64_1 _) rfl rfl rfl Tryd.func61 nm61 bd61) ?_
      refine E_val 62 rfl rfl rfl rfl (v := (.int .u64 (iAdd .u64 (iAdd .u64 (small64 ((schS s t) (t - 2)) 19 61 6) ((schS s t) (t - 7))) (small64 ((schS s t) (t - 15)) 1 8 7)))) (g_int rfl rfl rfl rfl rfl) ?_
      refine E_val 63 rfl rfl rfl rfl (v := (.int .i64 ((t : Nat) : Int))) (g_move rfl rfl) ?_
      refine E_val 64 rfl rfl rfl rfl (v := (.int .i64 ((t - 16 : Nat) : Int))) (g_int rfl rfl rfl rfl (subN t 16 (by omega))) ?_
      refine E_val 65 rfl rfl rfl rfl (v := (.pointer (some ⟨b2, t - 16, none⟩))) (g_indexAddrN (t - 16) (t - 16) rfl rfl rfl Tryd.underlying101 Tryd.sizeOf27 (by omega) (by omega)) ?_
      refine E_val 66 rfl rfl rfl rfl (v := (.int .u64 ((schS s t) (t - 16)))) (g_loadOne 0 rfl rfl rfl Tryd.underlying27 rfl (arr_get (by omega))) ?_
      refine E_val 67 rfl rfl rfl rfl (v := (.int .u64 (iAdd .u64 (iAdd .u64 (iAdd .u64 (small64 ((schS s t) (t - 2)) 19 61 6) ((schS s t) (t - 7))) (small64 ((schS s t) (t - 15)) 1 8 7)) ((schS s t) (t - 16))))) (g_int rfl rfl rfl rfl rfl) ?_
      refine E_call 68 rfl rfl rfl rfl (v := (.int .u64 (cut64 (iAdd .u64 (iAdd .u64 (iAdd .u64 (small64 ((schS s t) (t - 2)) 19 61 6) ((schS s t) (t - 7))) (small64 ((schS s t) (t - 15)) 1 8 7)) ((schS s t) (t - 16)))))) (g_call (cut64_E _) rfl rfl rfl Tryd.func54 nm54 bd54) ?_
      refine E_nil ?_
      refine ⟨?_, fun β2 w hM => ?_⟩
      · skip
        refine M_val rfl ?_
        refine M_val rfl ?_
        refine M_val rfl ?_
        refine M_val rfl ?_
        refine M_val rfl ?_
        refine M_val rfl ?_
        refine M_val rfl ?_
        refine M_val rfl ?_
        refine M_val rfl ?_
        refine M_val rfl ?_
        refine M_val rfl ?_
        refine M_val rfl ?_
        refine M_val rfl ?_
        refine M_val rfl ?_
        refine M_val rfl ?_
        refine M_val rfl ?_
        refine M_val rfl ?_
        refine M_val rfl ?_
        refine M_val rfl ?_
        refine M_val rfl ?_
        refine M_val rfl ?_
        refine M_val rfl ?_
        refine M_val rfl ?_
        refine M_val rfl ?_
        refine M_val rfl ?_
        refine M_val rfl ?_
        refine M_val rfl ?_
        refine M_val rfl ?_
        refine M_val rfl ?_
        refine M_val rfl ?_
        exact M_nil
      show wpList _ _ _ (_ :: _) (putAll _ (_)) _
      refine T_val 69 hn hM rfl rfl rfl (v := (.pointer (some ⟨b2, t, none⟩))) (g_indexAddrN t t rfl rfl rfl Tryd.underlying101 Tryd.sizeOf27 (by omega) (by omega)) ?_
      refine T_store 0 hn hM rfl rfl rfl rfl rfl rfl rfl (c' := (arr .u64 80 (schS s (t + 1)))) (sets_arr sz27 (by omega) (fun q _ => by rw [schS_ge hsp]; rfl)) (fun w hM => ?_)
      replace hM : Mem _ _ w [⟨b2, (arr .u64 80 (schS s (t + 1))), 101, true⟩, ⟨b1, (arr .u64 80 (fun _ => 0)), 101, true⟩, ⟨b0, #[(.int .i64 64), (.int .i64 80), (.int .i64 1), (.int .i64 8), (.int .i64 7), (.int .i64 19), (.int .i64 61), (.int .i64 6), (.int .i64 28), (.int .i64 34), (.int .i64 39), (.int .i64 14), (.int .i64 18), (.int .i64 41)], 41, true⟩] := hM
      refine T_end ?_
      refine x_norm ?_
      refine x_next ?_
      refine wp_region_lit ?_
      refine T_val 70 hn hM rfl rfl rfl (v := (.int .i64 ((t + 1 : Nat) : Int))) (g_int rfl rfl rfl rfl (add_nat t 1 (by simp only [bitsOf]; omega))) ?_
      refine T_val 14 hn hM rfl rfl rfl (v := (.int .i64 ((t + 1 : Nat) : Int))) (g_move rfl rfl) ?_
      refine T_nil ?_
      have hM2 := hM.sub [⟨b2, (arr .u64 80 (schS s (t + 1))), 101, true⟩, ⟨b1, (arr .u64 80 (fun _ => 0)), 101, true⟩, ⟨b0, #[(.int .i64 64), (.int .i64 80), (.int .i64 1), (.int .i64 8), (.int .i64 7), (.int .i64 19), (.int .i64 61), (.int .i64 6), (.int .i64 28), (.int .i64 34), (.int .i64 39), (.int .i64 14), (.int .i64 18), (.int .i64 41)], 41, true⟩] ((List.Sublist.refl _))
      replace hM : Mem w0 [] w [⟨b2, (arr .u64 80 (schS s (t + 1))), 101, true⟩, ⟨b1, (arr .u64 80 (fun _ => 0)), 101, true⟩, ⟨b0, #[(.int .i64 64), (.int .i64 80), (.int .i64 1), (.int .i64 8), (.int .i64 7), (.int .i64 19), (.int .i64 61), (.int .i64 6), (.int .i64 28), (.int .i64 34), (.int .i64 39), (.int .i64 14), (.int .i64 18), (.int .i64 41)], 41, true⟩] := hM
      exact frame_ex [(1, (.string s)), (2, (.pointer (some ⟨b0, 0, none⟩))), (4, (.pointer (some ⟨b1, 0, none⟩))), (5, (.pointer (some ⟨b2, 0, none⟩))), (6, (.int .i64 8)), (13, (.int .i64 80)), (14, (.int .i64 (((t + 1) : Nat) : Int)))] hn hdf rfl rfl ⟨rfl, rfl, rfl, rfl, rfl, rfl, rfl, trivial⟩ hM
  · intro a w hI
    obtain ⟨A, hn, hdf, rfl, hM⟩ := hI
    refine wp_seq ?_
    refine wp_region_lit ?_
    refine T_val 15 hn hM rfl rfl rfl (v := (.bool false)) (g_int rfl rfl rfl rfl (lss_nat 80 80 false (decide_eq_false (by omega)))) ?_
    refine T_nil ?_
    refine wp_seq ?_
    refine C_condF hn rfl rfl ?_
    refine wp_exit ?_
    refine x_thenE ?_
    refine x_thenE ?_
    refine x_in ?_
    refine x_next ?_
    refine wp_seq ?_
    refine wp_region_lit ?_
    refine T_val 71 hn hM rfl rfl rfl (v := (.agg (arr .u64 80 (schS s 80)))) (g_loadAll 0 rfl rfl rfl Tryd.underlying101 rfl (by rw [arr_len]; exact sz101)) ?_
    refine T_store 1 hn hM rfl rfl rfl rfl rfl rfl rfl (c' := (arr .u64 80 (schS s 80))) (sets_allA sz101 arr_len) (fun w hM => ?_)
    replace hM : Mem _ _ w [⟨b2, (arr .u64 80 (schS s 80)), 101, true⟩, ⟨b1, (arr .u64 80 (schS s 80)), 101, true⟩, ⟨b0, #[(.int .i64 64), (.int .i64 80), (.int .i64 1), (.int .i64 8), (.int .i64 7), (.int .i64 19), (.int .i64 61), (.int .i64 6), (.int .i64 28), (.int .i64 34), (.int .i64 39), (.int .i64 14), (.int .i64 18), (.int .i64 41)], 41, true⟩] := hM
    refine T_nil ?_
    refine wp_ret ?_
    refine leave (.inl rfl) hn hdf hM rfl Tryd.results52 (vs := [(.agg (arr .u64 80 (schS s 80)))]) (.row 1 rfl rfl Tryd.underlying101 rfl (by rw [arr_len]; exact sz101) .nil) ?_
    exact ⟨rfl, hM.done⟩

theorem nm30 : (Tryd.f30.name == "runtime.NumGoroutine") = false := by kernel_rfl
theorem bd30 : Tryd.f30.body.isNone = false := by kernel_rfl
theorem nm52 : (Tryd.f52.name == "runtime.NumGoroutine") = false := by kernel_rfl
theorem bd52 : Tryd.f52.body.isNone = false := by kernel_rfl
theorem nm53 : (Tryd.f53.name == "runtime.NumGoroutine") = false := by kernel_rfl
theorem bd53 : Tryd.f53.body.isNone = false := by kernel_rfl
theorem sz67 : (Tryd.prog.info? 67).map (·.size) = some 8 := by kernel_rfl

set_option maxHeartbeats 1000000 in
set_option maxRecDepth 100000 in
theorem mix_W (s : ByteArray) (hs : s.size = 128) (g1 f : Nat → Int) (w0 : World) {pa : Nat} (hpa : w0.heap[pa]? = some (.cells (arr .u64 8 f) 67 (0, 0))) (hg : w0.heap[1]? = some (.cells (arr .u64 80 g1) 101 (0, 0))) (hne : pa ≠ 1) :
    Calls Tryd.prog 35 #[kind512V, .pointer (some ⟨pa, 0, none⟩), .string s] w0 fun e w' => e = .returned (.tuple #[]) ∧ Wrote w0 w' [⟨pa, arr .u64 8 (mix64 g1 f s), 67, true⟩] := by
  refine enter Tryd.func35 rfl Tryd.ntmps35 (Nat.le_of_ble_eq_true rfl) fun A hn hdf => ?_
  have hM : Mem w0 [pa] w0 [⟨pa, (arr .u64 8 f), 67, true⟩, ⟨1, (arr .u64 80 g1), 101, false⟩] := Mem.mixed w0 hpa hg hne
  replace hM := hM
  refine wp_seq ?_
  refine wp_region_lit ?_
  refine T_box 3 hn hM rfl rfl rfl rfl rfl #[(.int .i64 64), (.int .i64 80), (.int .i64 1), (.int .i64 8), (.int .i64 7), (.int .i64 19), (.int .i64 61), (.int .i64 6), (.int .i64 28), (.int .i64 34), (.int .i64 39), (.int .i64 14), (.int .i64 18), (.int .i64 41)] rfl (fun b0 w hM => ?_)
  refine T_nil ?_
  refine wp_seq ?_
  refine wp_region_lit ?_
  refine T_val 12 hn hM rfl rfl rfl (v := (.agg #[(.int .i64 64), (.int .i64 80), (.int .i64 1), (.int .i64 8), (.int .i64 7), (.int .i64 19), (.int .i64 61), (.int .i64 6), (.int .i64 28), (.int .i64 34), (.int .i64 39), (.int .i64 14), (.int .i64 18), (.int .i64 41)])) (g_loadRow 0 [(.int .i64 64), (.int .i64 80), (.int .i64 1), (.int .i64 8), (.int .i64 7), (.int .i64 19), (.int .i64 61), (.int .i64 6), (.int .i64 28), (.int .i64 34), (.int .i64 39), (.int .i64 14), (.int .i64 18), (.int .i64 41)] rfl rfl rfl Tryd.underlying41 rfl sz41 rfl) ?_
  refine T_val 13 hn hM rfl rfl rfl (v := (.string s)) (g_move rfl rfl) ?_
  refine T_call 14 hn hM rfl rfl rfl (v := (.agg (arr .u64 80 (schS s 80)))) (g_call (schedule_E s hs) rfl rfl rfl Tryd.func52 nm52 bd52) (fun w hM => ?_)
  refine T_alloc 6 hn hM rfl rfl rfl rfl Tryd.zeroValue101 (arr .u64 80 (fun _ => 0)) (by rfl) (fun b1 w hM => ?_)
  refine T_store 0 hn hM rfl rfl rfl rfl rfl rfl rfl (c' := (arr .u64 80 (schS s 80))) (sets_allA sz101 arr_len) (fun w hM => ?_)
  replace hM : Mem _ _ w [⟨b1, (arr .u64 80 (schS s 80)), 101, true⟩, ⟨b0, #[(.int .i64 64), (.int .i64 80), (.int .i64 1), (.int .i64 8), (.int .i64 7), (.int .i64 19), (.int .i64 61), (.int .i64 6), (.int .i64 28), (.int .i64 34), (.int .i64 39), (.int .i64 14), (.int .i64 18), (.int .i64 41)], 41, true⟩, ⟨pa, (arr .u64 8 f), 67, true⟩, ⟨1, (arr .u64 80 g1), 101, false⟩] := hM
  refine T_nil ?_
  refine wp_seq ?_
  refine wp_region_lit ?_
  refine T_val 15 hn hM rfl rfl rfl (v := (.pointer (some ⟨pa, 0, none⟩))) (g_move rfl rfl) ?_
  refine T_val 16 hn hM rfl rfl rfl (v := (.pointer (some ⟨pa, 0, none⟩))) (g_nilCheck rfl rfl) ?_
  refine T_val 17 hn hM rfl rfl rfl (v := (.agg (arr .u64 8 f))) (g_loadAll 2 rfl rfl rfl Tryd.underlying67 rfl (by rw [arr_len]; exact sz67)) ?_
  refine T_alloc 7 hn hM rfl rfl rfl rfl Tryd.zeroValue67 (arr .u64 8 (fun _ => 0)) (by rfl) (fun b2 w hM => ?_)
  refine T_store 0 hn hM rfl rfl rfl rfl rfl rfl rfl (c' := (arr .u64 8 f)) (sets_allA sz67 arr_len) (fun w hM => ?_)
  replace hM : Mem _ _ w [⟨b2, (arr .u64 8 f), 67, true⟩, ⟨b1, (arr .u64 80 (schS s 80)), 101, true⟩, ⟨b0, #[(.int .i64 64), (.int .i64 80), (.int .i64 1), (.int .i64 8), (.int .i64 7), (.int .i64 19), (.int .i64 61), (.int .i64 6), (.int .i64 28), (.int .i64 34), (.int .i64 39), (.int .i64 14), (.int .i64 18), (.int .i64 41)], 41, true⟩, ⟨pa, (arr .u64 8 f), 67, true⟩, ⟨1, (arr .u64 80 g1), 101, false⟩] := hM
  refine T_nil ?_
  refine wp_seq ?_
  refine wp_seq ?_
  refine wp_region_lit ?_
  refine T_val 18 hn hM rfl rfl rfl (v := (.pointer (some ⟨b0, 1, none⟩))) (g_fieldAddr rfl rfl Tryd.underlying41 rfl Tryd.sizeOf3 1 rfl) ?_
  refine T_val 19 hn hM rfl rfl rfl (v := (.int .i64 80)) (g_loadOne 2 rfl rfl rfl Tryd.underlying3 rfl rfl) ?_
  refine T_val 20 hn hM rfl rfl rfl (v := (.int .i64 0)) (g_move rfl rfl) ?_
  refine T_nil ?_
  refine wp_block ?_
  refine C_loop (fun k a w => ∃ A : Act, A.tmps.size = 115 ∧ A.defers = [] ∧ a = putAll A [(1, (.pointer (some ⟨pa, 0, none⟩))), (3, (.pointer (some ⟨b0, 0, none⟩))), (6, (.pointer (some ⟨b1, 0, none⟩))), (7, (.pointer (some ⟨b2, 0, none⟩))), (19, (.int .i64 80)), (20, (.int .i64 ((k : Nat) : Int)))] ∧ Mem w0 [pa] w [⟨b2, (arr .u64 8 (mixX g1 (schS s 80) f k)), 67, true⟩, ⟨b1, (arr .u64 80 (schS s 80)), 101, true⟩, ⟨b0, #[(.int .i64 64), (.int .i64 80), (.int .i64 1), (.int .i64 8), (.int .i64 7), (.int .i64 19), (.int .i64 61), (.int .i64 6), (.int .i64 28), (.int .i64 34), (.int .i64 39), (.int .i64 14), (.int .i64 18), (.int .i64 41)], 41, true⟩, ⟨pa, (arr .u64 8 f), 67, true⟩, ⟨1, (arr .u64 80 g1), 101, false⟩]) 80 ?_ ?_ ?_
  · skip
    exact frame_ex [(1, (.pointer (some ⟨pa, 0, none⟩))), (3, (.pointer (some ⟨b0, 0, none⟩))), (6, (.pointer (some ⟨b1, 0, none⟩))), (7, (.pointer (some ⟨b2, 0, none⟩))), (19, (.int .i64 80)), (20, (.int .i64 ((0 : Nat) : Int)))] hn hdf rfl rfl ⟨rfl, rfl, rfl, rfl, rfl, rfl, trivial⟩ hM
  · intro k hk a w hI
    obtain ⟨A, hn, hdf, rfl, hM⟩ := hI
    refine wp_seq ?_
    refine wp_region_lit ?_
    refine T_val 21 hn hM rfl rfl rfl (v := (.bool true)) (g_int rfl rfl rfl rfl (lss_nat k 80 true (decide_eq_true (by omega)))) ?_
    refine T_nil ?_
    refine wp_seq ?_
    refine C_condT hn rfl rfl ?_
    refine wp_skip ?_
    refine x_next ?_
    refine wp_seq ?_
    refine wp_block ?_
    refine wp_seq ?_
    refine wp_region_lit ?_
    refine T_val 22 hn hM rfl rfl rfl (v := (.int .i64 ((k : Nat) : Int))) (g_move rfl rfl) ?_
    refine T_val 8 hn hM rfl rfl rfl (v := (.int .i64 ((k : Nat) : Int))) (g_assign rfl rfl) ?_
    refine T_nil ?_
    refine wp_seq ?_
    refine R_any [.val, .val, .val, .val, .val, .val, .val, .val, .val, .val, .val, .val, .val, .val, .val, .val, .val, .val, .val, .val, .val, .val, .val, .val, .val, .val, .val, .val, .val, .val, .val] 31 [] [] hn hM rfl (by kernel_rfl) (by kernel_rfl) rfl rfl rfl ?_
    refine E_val 23 rfl rfl rfl rfl (v := (.pointer (some ⟨b2, 7, none⟩))) (g_indexAddr 7 rfl rfl rfl Tryd.underlying67 Tryd.sizeOf27 (by decide) rfl) ?_
    refine E_val 24 rfl rfl rfl rfl (v := (.int .u64 ((mixX g1 (schS s 80) f k) 7))) (g_loadOne 0 rfl rfl rfl Tryd.underlying27 rfl (arr_get (by omega))) ?_
    refine E_val 25 rfl rfl rfl rfl (v := (.agg #[(.int .i64 64), (.int .i64 80), (.int .i64 1), (.int .i64 8), (.int .i64 7), (.int .i64 19), (.int .i64 61), (.int .i64 6), (.int .i64 28), (.int .i64 34), (.int .i64 39), (.int .i64 14), (.int .i64 18), (.int .i64 41)])) (g_loadRow 2 [(.int .i64 64), (.int .i64 80), (.int .i64 1), (.int .i64 8), (.int .i64 7), (.int .i64 19), (.int .i64 61), (.int .i64 6), (.int .i64 28), (.int .i64 34), (.int .i64 39), (.int .i64 14), (.int .i64 18), (.int .i64 41)] rfl rfl rfl Tryd.underlying41 rfl sz41 rfl) ?_
    refine E_val 26 rfl rfl rfl rfl (v := (.pointer (some ⟨b2, 4, none⟩))) (g_indexAddr 4 rfl rfl rfl Tryd.underlying67 Tryd.sizeOf27 (by decide) rfl) ?_
    refine E_val 27 rfl rfl rfl rfl (v := (.int .u64 ((mixX g1 (schS s 80) f k) 4))) (g_loadOne 0 rfl rfl rfl Tryd.underlying27 rfl (arr_get (by omega))) ?_
    refine E_val 28 rfl rfl rfl rfl (v := (.pointer (some ⟨b0, 11, none⟩))) (g_fieldAddr rfl rfl Tryd.underlying41 rfl Tryd.sizeOf39 11 rfl) ?_
    refine E_val 29 rfl rfl rfl rfl (v := (.agg #[(.int .i64 14), (.int .i64 18), (.int .i64 41)])) (g_loadRow 2 [(.int .i64 14), (.int .i64 18), (.int .i64 41)] rfl rfl rfl Tryd.underlying39 rfl sz39 rfl) ?_
    refine E_call 30 rfl rfl rfl rfl (v := (.int .u64 (large64 ((mixX g1 (schS s 80) f k) 4) 14 18 41))) (g_call (large64_14 _) rfl rfl rfl Tryd.func53 nm53 bd53) ?_
    refine E_val 31 rfl rfl rfl rfl (v := (.int .u64 (iAdd .u64 ((mixX g1 (schS s 80) f k) 7) (large64 ((mixX g1 (schS s 80) f k) 4) 14 18 41)))) (g_int rfl rfl rfl rfl rfl) ?_
    refine E_val 32 rfl rfl rfl rfl (v := (.pointer (some ⟨b2, 4, none⟩))) (g_indexAddr 4 rfl rfl rfl Tryd.underlying67 Tryd.sizeOf27 (by decide) rfl) ?_
    refine E_val 33 rfl rfl rfl rfl (v := (.int .u64 ((mixX g1 (schS s 80) f k) 4))) (g_loadOne 0 rfl rfl rfl Tryd.underlying27 rfl (arr_get (by omega))) ?_
    refine E_val 34 rfl rfl rfl rfl (v := (.pointer (some ⟨b2, 5, none⟩))) (g_indexAddr 5 rfl rfl rfl Tryd.underlying67 Tryd.sizeOf27 (by decide) rfl) ?_
    refine E_val 35 rfl rfl rfl rfl (v := (.int .u64 ((mixX g1 (schS s 80) f k) 5))) (g_loadOne 0 rfl rfl rfl Tryd.underlying27 rfl (arr_get (by omega))) ?_
    refine E_val 36 rfl rfl rfl rfl (v := (.int .u64 (iAnd .u64 ((mixX g1 (schS s 80) f k) 4) ((mixX g1 (schS s 80) f k) 5)))) (g_int rfl rfl rfl rfl rfl) ?_
    refine E_val 37 rfl rfl rfl rfl (v := (.pointer (some ⟨b2, 4, none⟩))) (g_indexAddr 4 rfl rfl rfl Tryd.underlying67 Tryd.sizeOf27 (by decide) rfl) ?_
    refine E_val 38 rfl rfl rfl rfl (v := (.int .u64 ((mixX g1 (schS s 80) f k) 4))) (g_loadOne 0 rfl rfl rfl Tryd.underlying27 rfl (arr_get (by omega))) ?_
    refine E_val 39 rfl rfl rfl rfl (v := (.int .u64 (iXor .u64 18446744073709551615 ((mixX g1 (schS s 80) f k) 4)))) (g_unOp rfl rfl (fun w => rfl)) ?_
    refine E_val 40 rfl rfl rfl rfl (v := (.pointer (some ⟨b2, 6, none⟩))) (g_indexAddr 6 rfl rfl rfl Tryd.underlying67 Tryd.sizeOf27 (by decide) rfl) ?_
    refine E_val 41 rfl rfl rfl rfl (v := (.int .u64 ((mixX g1 (schS s 80) f k) 6))) (g_loadOne 0 rfl rfl rfl Tryd.underlying27 rfl (arr_get (by omega))) ?_
    refine E_val 42 rfl rfl rfl rfl (v := (.int .u64 (iAnd .u64 (iXor .u64 18446744073709551615 ((mixX g1 (schS s 80) f k) 4)) ((mixX g1 (schS s 80) f k) 6)))) (g_int rfl rfl rfl rfl rfl) ?_
    refine E_val 43 rfl rfl rfl rfl (v := (.int .u64 (iXor .u64 (iAnd .u64 ((mixX g1 (schS s 80) f k) 4) ((mixX g1 (schS s 80) f k) 5)) (iAnd .u64 (iXor .u64 18446744073709551615 ((mixX g1 (schS s 80) f k) 4)) ((mixX g1 (schS s 80) f k) 6))))) (g_int rfl rfl rfl rfl rfl) ?_
    refine E_val 44 rfl rfl rfl rfl (v := (.int .u64 (iAdd .u64 (iAdd .u64 ((mixX g1 (schS s 80) f k) 7) (large64 ((mixX g1 (schS s 80) f k) 4) 14 18 41)) (iXor .u64 (iAnd .u64 ((mixX g1 (schS s 80) f k) 4) ((mixX g1 (schS s 80) f k) 5)) (iAnd .u64 (iXor .u64 18446744073709551615 ((mixX g1 (schS s 80) f k) 4)) ((mixX g1 (schS s 80) f k) 6)))))) (g_int rfl rfl rfl rfl rfl) ?_
    refine E_val 45 rfl rfl rfl rfl (v := (.agg #[(.int .i64 64), (.int .i64 80), (.int .i64 1), (.int .i64 8), (.int .i64 7), (.int .i64 19), (.int .i64 61), (.int .i64 6), (.int .i64 28), (.int .i64 34), (.int .i64 39), (.int .i64 14), (.int .i64 18), (.int .i64 41)])) (g_loadRow 2 [(.int .i64 64), (.int .i64 80), (.int .i64 1), (.int .i64 8), (.int .i64 7), (.int .i64 19), (.int .i64 61), (.int .i64 6), (.int .i64 28), (.int .i64 34), (.int .i64 39), (.int .i64 14), (.int .i64 18), (.int .i64 41)] rfl rfl rfl Tryd.underlying41 rfl sz41 rfl) ?_
    refine E_val 46 rfl rfl rfl rfl (v := (.int .i64 ((k : Nat) : Int))) (g_move rfl rfl) ?_
    refine E_val 47 rfl rfl rfl rfl (v := (.pointer (some ⟨1, k, none⟩))) (g_indexAddrN k k rfl rfl rfl Tryd.underlying101 Tryd.sizeOf27 (by omega) (by omega)) ?_
    refine E_val 48 rfl rfl rfl rfl (v := (.int .u64 (g1 k))) (g_loadOne 4 rfl rfl rfl Tryd.underlying27 rfl (arr_get (by omega))) ?_
    refine E_call 49 rfl rfl rfl rfl (v := (.int .u64 (word64 (g1 k)))) (g_call (word64_E _) rfl rfl rfl Tryd.func30 nm30 bd30) ?_
    refine E_val 50 rfl rfl rfl rfl (v := (.int .u64 (iAdd .u64 (iAdd .u64 (iAdd .u64 ((mixX g1 (schS s 80) f k) 7) (large64 ((mixX g1 (schS s 80) f k) 4) 14 18 41)) (iXor .u64 (iAnd .u64 ((mixX g1 (schS s 80) f k) 4) ((mixX g1 (schS s 80) f k) 5)) (iAnd .u64 (iXor .u64 18446744073709551615 ((mixX g1 (schS s 80) f k) 4)) ((mixX g1 (schS s 80) f k) 6)))) (word64 (g1 k))))) (g_int rfl rfl rfl rfl rfl) ?_
    refine E_val 51 rfl rfl rfl rfl (v := (.int .i64 ((k : Nat) : Int))) (g_move rfl rfl) ?_
    refine E_val 52 rfl rfl rfl rfl (v := (.pointer (some ⟨b1, k, none⟩))) (g_indexAddrN k k rfl rfl rfl Tryd.underlying101 Tryd.sizeOf27 (by omega) (by omega)) ?_
    refine E_val 53 rfl rfl rfl rfl (v := (.int .u64 ((schS s 80) k))) (g_loadOne 1 rfl rfl rfl Tryd.underlying27 rfl (arr_get (by omega))) ?_
    refine E_nil ?_
    refine ⟨?_, fun β1 w hM => ?_⟩
    · skip
      refine M_val rfl ?_
      refine M_val rfl ?_
      refine M_val rfl ?_
      refine M_val rfl ?_
      refine M_val rfl ?_
      refine M_val rfl ?_
      refine M_val rfl ?_
      refine M_val rfl ?_
      refine M_val rfl ?_
      refine M_val rfl ?_
      refine M_val rfl ?_
      refine M_val rfl ?_
      refine M_val rfl ?_
      refine M_val rfl ?_
      refine M_val rfl ?_
      refine M_val rfl ?_
      refine M_val rfl ?_
      refine M_val rfl ?_
      refine M_val rfl ?_
      refine M_val rfl ?_
      refine M_val rfl ?_
      refine M_val rfl ?_
      refine M_val rfl ?_
      refine M_val rfl ?_
      refine M_val rfl ?_
      refine M_val rfl ?_
      refine M_val rfl ?_
      refine M_val rfl ?_
      refine M_val rfl ?_
      refine M_val rfl ?_
      refine M_val rfl ?_
      exact M_nil
    show wpList _ _ _ (_ :: _) (putAll _ (_)) _
    refine T_val 54 hn hM rfl rfl rfl (v := (.int .u64 (mixOne g1 (mixX g1 (schS s 80) f k) (schS s 80) k))) (g_int rfl rfl rfl rfl rfl) ?_
    refine T_val 9 hn hM rfl rfl rfl (v := (.int .u64 (mixOne g1 (mixX g1 (schS s 80) f k) (schS s 80) k))) (g_assign rfl rfl) ?_
    refine T_nil ?_
    refine wp_seq ?_
    refine R_any [.val, .val, .val, .val, .val, .val, .val, .val, .val, .val, .val, .val, .val, .val, .val, .val, .val, .val, .val, .val, .val, .val, .val] 23 [] [] hn hM rfl (by kernel_rfl) (by kernel_rfl) rfl rfl rfl ?_
    refine E_val 55 rfl rfl rfl rfl (v := (.agg #[(.int .i64 64), (.int .i64 80), (.int .i64 1), (.int .i64 8), (.int .i64 7), (.int .i64 19), (.int .i64 61), (.int .i64 6), (.int .i64 28), (.int .i64 34), (.int .i64 39), (.int .i64 14), (.int .i64 18), (.int .i64 41)])) (g_loadRow 2 [(.int .i64 64), (.int .i64 80), (.int .i64 1), (.int .i64 8), (.int .i64 7), (.int .i64 19), (.int .i64 61), (.int .i64 6), (.int .i64 28), (.int .i64 34), (.int .i64 39), (.int .i64 14), (.int .i64 18), (.int .i64 41)] rfl rfl rfl Tryd.underlying41 rfl sz41 rfl) ?_
    refine E_val 56 rfl rfl rfl rfl (v := (.pointer (some ⟨b2, 0, none⟩))) (g_indexAddr 0 rfl rfl rfl Tryd.underlying67 Tryd.sizeOf27 (by decide) rfl) ?_
    refine E_val 57 rfl rfl rfl rfl (v := (.int .u64 ((mixX g1 (schS s 80) f k) 0))) (g_loadOne 0 rfl rfl rfl Tryd.underlying27 rfl (arr_get (by omega))) ?_
    refine E_val 58 rfl rfl rfl rfl (v := (.pointer (some ⟨b0, 8, none⟩))) (g_fieldAddr rfl rfl Tryd.underlying41 rfl Tryd.sizeOf39 8 rfl) ?_
    refine E_val 59 rfl rfl rfl rfl (v := (.agg #[(.int .i64 28), (.int .i64 34), (.int .i64 39)])) (g_loadRow 2 [(.int .i64 28), (.int .i64 34), (.int .i64 39)] rfl rfl rfl Tryd.underlying39 rfl sz39 rfl) ?_
    refine E_call 60 rfl rfl rfl rfl (v := (.int .u64 (large64 ((mixX g1 (schS s 80) f k) 0) 28 34 39))) (g_call (large64_28 _) rfl rfl rfl Tryd.func53 nm53 bd53) ?_
    refine E_val 61 rfl rfl rfl rfl (v := (.pointer (some ⟨b2, 0, none⟩))) (g_indexAddr 0 rfl rfl rfl Tryd.underlying67 Tryd.sizeOf27 (by decide) rfl) ?_
    refine E_val 62 rfl rfl rfl rfl (v := (.int .u64 ((mixX g1 (schS s 80) f k) 0))) (g_loadOne 0 rfl rfl rfl Tryd.underlying27 rfl (arr_get (by omega))) ?_
    refine E_val 63 rfl rfl rfl rfl (v := (.pointer (some ⟨b2, 1, none⟩))) (g_indexAddr 1 rfl rfl rfl Tryd.underlying67 Tryd.sizeOf27 (by decide) rfl) ?_
    refine E_val 64 rfl rfl rfl rfl (v := (.int .u64 ((mixX g1 (schS s 80) f k) 1))) (g_loadOne 0 rfl rfl rfl Tryd.underlying27 rfl (arr_get (by omega))) ?_
    refine E_val 65 rfl rfl rfl rfl (v := (.int .u64 (iAnd .u64 ((mixX g1 (schS s 80) f k) 0) ((mixX g1 (schS s 80) f k) 1)))) (g_int rfl rfl rfl rfl rfl) ?_
    refine E_val 66 rfl rfl rfl rfl (v := (.pointer (some ⟨b2, 0, none⟩))) (g_indexAddr 0 rfl rfl rfl Tryd.underlying67 Tryd.sizeOf27 (by decide) rfl) ?_
    refine E_val 67 rfl rfl rfl rfl (v := (.int .u64 ((mixX g1 (schS s 80) f k) 0))) (g_loadOne 0 rfl rfl rfl Tryd.underlying27 rfl (arr_get (by omega))) ?_
    refine E_val 68 rfl rfl rfl rfl (v := (.pointer (some ⟨b2, 2, none⟩))) (g_indexAddr 2 rfl rfl rfl Tryd.underlying67 Tryd.sizeOf27 (by decide) rfl) ?_
    refine E_val 69 rfl rfl rfl rfl (v := (.int .u64 ((mixX g1 (schS s 80) f k) 2))) (g_loadOne 0 rfl rfl rfl Tryd.underlying27 rfl (arr_get (by omega))) ?_
    refine E_val 70 rfl rfl rfl rfl (v := (.int .u64 (iAnd .u64 ((mixX g1 (schS s 80) f k) 0) ((mixX g1 (schS s 80) f k) 2)))) (g_int rfl rfl rfl rfl rfl) ?_
    refine E_val 71 rfl rfl rfl rfl (v := (.int .u64 (iXor .u64 (iAnd .u64 ((mixX g1 (schS s 80) f k) 0) ((mixX g1 (schS s 80) f k) 1)) (iAnd .u64 ((mixX g1 (schS s 80) f k) 0) ((mixX g1 (schS s 80) f k) 2))))) (g_int rfl rfl rfl rfl rfl) ?_
    refine E_val 72 rfl rfl rfl rfl (v := (.pointer (some ⟨b2, 1, none⟩))) (g_indexAddr 1 rfl rfl rfl Tryd.underlying67 Tryd.sizeOf27 (by decide) rfl) ?_
    refine E_val 73 rfl rfl rfl rfl (v := (.int .u64 ((mixX g1 (schS s 80) f k) 1))) (g_loadOne 0 rfl rfl rfl Tryd.underlying27 rfl (arr_get (by omega))) ?_
    refine E_val 74 rfl rfl rfl rfl (v := (.pointer (some ⟨b2, 2, none⟩))) (g_indexAddr 2 rfl rfl rfl Tryd.underlying67 Tryd.sizeOf27 (by decide) rfl) ?_
    refine E_val 75 rfl rfl rfl rfl (v := (.int .u64 ((mixX g1 (schS s 80) f k) 2))) (g_loadOne 0 rfl rfl rfl Tryd.underlying27 rfl (arr_get (by omega))) ?_
    refine E_val 76 rfl rfl rfl rfl (v := (.int .u64 (iAnd .u64 ((mixX g1 (schS s 80) f k) 1) ((mixX g1 (schS s 80) f k) 2)))) (g_int rfl rfl rfl rfl rfl) ?_
    refine E_val 77 rfl rfl rfl rfl (v := (.int .u64 (iXor .u64 (iXor .u64 (iAnd .u64 ((mixX g1 (schS s 80) f k) 0) ((mixX g1 (schS s 80) f k) 1)) (iAnd .u64 ((mixX g1 (schS s 80) f k) 0) ((mixX g1 (schS s 80) f k) 2))) (iAnd .u64 ((mixX g1 (schS s 80) f k) 1) ((mixX g1 (schS s 80) f k) 2))))) (g_int rfl rfl rfl rfl rfl) ?_
    refine E_nil ?_
    refine ⟨?_, fun β2 w hM => ?_⟩
    · skip
      refine M_val rfl ?_
      refine M_val rfl ?_
      refine M_val rfl ?_
      refine M_val rfl ?_
      refine M_val rfl ?_
      refine M_val rfl ?_
      refine M_val rfl ?_
      refine M_val rfl ?_
      refine M_val rfl ?_
      refine M_val rfl ?_
      refine M_val rfl ?_
      refine M_val rfl ?_
      refine M_val rfl ?_
      refine M_val rfl ?_
      refine M_val rfl ?_
      refine M_val rfl ?_
      refine M_val rfl ?_
      refine M_val rfl ?_
      refine M_val rfl ?_
      refine M_val rfl ?_
      refine M_val rfl ?_
      refine M_val rfl ?_
      refine M_val rfl ?_
      exact M_nil
    show wpList _ _ _ (_ :: _) (putAll _ (_)) _
    refine T_val 78 hn hM rfl rfl rfl (v := (.int .u64 (mixTwo (mixX g1 (schS s 80) f k)))) (g_int rfl rfl rfl rfl rfl) ?_
    refine T_val 10 hn hM rfl rfl rfl (v := (.int .u64 (mixTwo (mixX g1 (schS s 80) f k)))) (g_assign rfl rfl) ?_
    refine T_nil ?_
    refine wp_seq ?_
    refine R_any [.val, .val] 2 [] [] hn hM rfl (by kernel_rfl) (by kernel_rfl) rfl rfl rfl ?_
    refine E_val 79 rfl rfl rfl rfl (v := (.slice (some ⟨b2, 1, none⟩) 7 7)) (g_sliceArrFrom (l := 1) rfl rfl rfl Tryd.underlying67 Tryd.sizeOf27 (by decide) (by decide)) ?_
    refine E_val 80 rfl rfl rfl rfl (v := (.slice (some ⟨b2, 0, none⟩) 7 8)) (g_sliceArrTo (h := 7) rfl rfl rfl Tryd.underlying67 Tryd.sizeOf27 (by decide)) ?_
    refine E_nil ?_
    refine ⟨?_, fun β3 w hM => ?_⟩
    · skip
      refine M_val rfl ?_
      refine M_val rfl ?_
      exact M_nil
    show wpList _ _ _ (_ :: _) (putAll _ (_)) _
    refine T_copy (c' := (arr .u64 8 (shiftX (mixX g1 (schS s 80) f k)))) 0 0 7 81 hn hM rfl rfl rfl rfl rfl rfl Tryd.underlying104 Tryd.sizeOf27 rfl rfl rfl rfl rfl rfl (shift_arr _) (fun w hM => ?_)
    replace hM : Mem _ _ w [⟨b2, (arr .u64 8 (shiftX (mixX g1 (schS s 80) f k))), 67, true⟩, ⟨b1, (arr .u64 80 (schS s 80)), 101, true⟩, ⟨b0, #[(.int .i64 64), (.int .i64 80), (.int .i64 1), (.int .i64 8), (.int .i64 7), (.int .i64 19), (.int .i64 61), (.int .i64 6), (.int .i64 28), (.int .i64 34), (.int .i64 39), (.int .i64 14), (.int .i64 18), (.int .i64 41)], 41, true⟩, ⟨pa, (arr .u64 8 f), 67, true⟩, ⟨1, (arr .u64 80 g1), 101, false⟩] := hM
    refine T_nil ?_
    refine wp_seq ?_
    refine wp_region_lit ?_
    refine T_val 82 hn hM rfl rfl rfl (v := (.agg #[(.int .i64 64), (.int .i64 80), (.int .i64 1), (.int .i64 8), (.int .i64 7), (.int .i64 19), (.int .i64 61), (.int .i64 6), (.int .i64 28), (.int .i64 34), (.int .i64 39), (.int .i64 14), (.int .i64 18), (.int .i64 41)])) (g_loadRow 2 [(.int .i64 64), (.int .i64 80), (.int .i64 1), (.int .i64 8), (.int .i64 7), (.int .i64 19), (.int .i64 61), (.int .i64 6), (.int .i64 28), (.int .i64 34), (.int .i64 39), (.int .i64 14), (.int .i64 18), (.int .i64 41)] rfl rfl rfl Tryd.underlying41 rfl sz41 rfl) ?_
    refine T_val 83 hn hM rfl rfl rfl (v := (.pointer (some ⟨b2, 4, none⟩))) (g_indexAddr 4 rfl rfl rfl Tryd.underlying67 Tryd.sizeOf27 (by decide) rfl) ?_
    refine T_val 84 hn hM rfl rfl rfl (v := (.int .u64 ((shiftX (mixX g1 (schS s 80) f k)) 4))) (g_loadOne 0 rfl rfl rfl Tryd.underlying27 rfl (arr_get (by omega))) ?_
    refine T_val 85 hn hM rfl rfl rfl (v := (.int .u64 (mixOne g1 (mixX g1 (schS s 80) f k) (schS s 80) k))) (g_move rfl rfl) ?_
    refine T_val 86 hn hM rfl rfl rfl (v := (.int .u64 (iAdd .u64 ((shiftX (mixX g1 (schS s 80) f k)) 4) (mixOne g1 (mixX g1 (schS s 80) f k) (schS s 80) k)))) (g_int rfl rfl rfl rfl rfl) ?_
    refine T_call 87 hn hM rfl rfl rfl (v := (.int .u64 (cut64 (iAdd .u64 ((shiftX (mixX g1 (schS s 80) f k)) 4) (mixOne g1 (mixX g1 (schS s 80) f k) (schS s 80) k))))) (g_call (cut64_E _) rfl rfl rfl Tryd.func54 nm54 bd54) (fun w hM => ?_)
    refine T_val 88 hn hM rfl rfl rfl (v := (.pointer (some ⟨b2, 4, none⟩))) (g_indexAddr 4 rfl rfl rfl Tryd.underlying67 Tryd.sizeOf27 (by decide) rfl) ?_
    refine T_store 0 hn hM rfl rfl rfl rfl rfl rfl rfl (c' := (arr .u64 8 (upd (shiftX (mixX g1 (schS s 80) f k)) 4 (cut64 (iAdd .u64 (shiftX (mixX g1 (schS s 80) f k) 4) (mixOne g1 (mixX g1 (schS s 80) f k) (schS s 80) k)))))) (sets_arr sz27 (by omega) (fun q _ => rfl)) (fun w hM => ?_)
    replace hM : Mem _ _ w [⟨b2, (arr .u64 8 (upd (shiftX (mixX g1 (schS s 80) f k)) 4 (cut64 (iAdd .u64 (shiftX (mixX g1 (schS s 80) f k) 4) (mixOne g1 (mixX g1 (schS s 80) f k) (schS s 80) k))))), 67, true⟩, ⟨b1, (arr .u64 80 (schS s 80)), 101, true⟩, ⟨b0, #[(.int .i64 64), (.int .i64 80), (.int .i64 1), (.int .i64 8), (.int .i64 7), (.int .i64 19), (.int .i64 61), (.int .i64 6), (.int .i64 28), (.int .i64 34), (.int .i64 39), (.int .i64 14), (.int .i64 18), (.int .i64 41)], 41, true⟩, ⟨pa, (arr .u64 8 f), 67, true⟩, ⟨1, (arr .u64 80 g1), 101, false⟩] := hM
    refine T_nil ?_
    refine wp_region_lit ?_
    refine T_val 89 hn hM rfl rfl rfl (v := (.agg #[(.int .i64 64), (.int .i64 80), (.int .i64 1), (.int .i64 8), (.int .i64 7), (.int .i64 19), (.int .i64 61), (.int .i64 6), (.int .i64 28), (.int .i64 34), (.int .i64 39), (.int .i64 14), (.int .i64 18), (.int .i64 41)])) (g_loadRow 2 [(.int .i64 64), (.int .i64 80), (.int .i64 1), (.int .i64 8), (.int .i64 7), (.int .i64 19), (.int .i64 61), (.int .i64 6), (.int .i64 28), (.int .i64 34), (.int .i64 39), (.int .i64 14), (.int .i64 18), (.int .i64 41)] rfl rfl rfl Tryd.underlying41 rfl sz41 rfl) ?_
    refine T_val 90 hn hM rfl rfl rfl (v := (.int .u64 (mixOne g1 (mixX g1 (schS s 80) f k) (schS s 80) k))) (g_move rfl rfl) ?_
    refine T_val 91 hn hM rfl rfl rfl (v := (.int .u64 (mixTwo (mixX g1 (schS s 80) f k)))) (g_move rfl rfl) ?_
    refine T_val 92 hn hM rfl rfl rfl (v := (.int .u64 (iAdd .u64 (mixOne g1 (mixX g1 (schS s 80) f k) (schS s 80) k) (mixTwo (mixX g1 (schS s 80) f k))))) (g_int rfl rfl rfl rfl rfl) ?_
    refine T_call 93 hn hM rfl rfl rfl (v := (.int .u64 (cut64 (iAdd .u64 (mixOne g1 (mixX g1 (schS s 80) f k) (schS s 80) k) (mixTwo (mixX g1 (schS s 80) f k)))))) (g_call (cut64_E _) rfl rfl rfl Tryd.func54 nm54 bd54) (fun w hM => ?_)
    refine T_val 94 hn hM rfl rfl rfl (v := (.pointer (some ⟨b2, 0, none⟩))) (g_indexAddr 0 rfl rfl rfl Tryd.underlying67 Tryd.sizeOf27 (by decide) rfl) ?_
    refine T_store 0 hn hM rfl rfl rfl rfl rfl rfl rfl (c' := (arr .u64 8 (mixX g1 (schS s 80) f (k + 1)))) (sets_arr sz27 (by omega) (fun q _ => rfl)) (fun w hM => ?_)
    replace hM : Mem _ _ w [⟨b2, (arr .u64 8 (mixX g1 (schS s 80) f (k + 1))), 67, true⟩, ⟨b1, (arr .u64 80 (schS s 80)), 101, true⟩, ⟨b0, #[(.int .i64 64), (.int .i64 80), (.int .i64 1), (.int .i64 8), (.int .i64 7), (.int .i64 19), (.int .i64 61), (.int .i64 6), (.int .i64 28), (.int .i64 34), (.int .i64 39), (.int .i64 14), (.int .i64 18), (.int .i64 41)], 41, true⟩, ⟨pa, (arr .u64 8 f), 67, true⟩, ⟨1, (arr .u64 80 g1), 101, false⟩] := hM
    refine T_end ?_
    refine x_norm ?_
    refine x_next ?_
    refine wp_region_lit ?_
    refine T_val 95 hn hM rfl rfl rfl (v := (.int .i64 ((k + 1 : Nat) : Int))) (g_int rfl rfl rfl rfl (add_nat k 1 (by simp only [bitsOf]; omega))) ?_
    refine T_val 20 hn hM rfl rfl rfl (v := (.int .i64 ((k + 1 : Nat) : Int))) (g_move rfl rfl) ?_
    refine T_nil ?_
    exact frame_ex [(1, (.pointer (some ⟨pa, 0, none⟩))), (3, (.pointer (some ⟨b0, 0, none⟩))), (6, (.pointer (some ⟨b1, 0, none⟩))), (7, (.pointer (some ⟨b2, 0, none⟩))), (19, (.int .i64 80)), (20, (.int .i64 (((k + 1) : Nat) : Int)))] hn hdf rfl rfl ⟨rfl, rfl, rfl, rfl, rfl, rfl, trivial⟩ hM
  · intro a w hI
    obtain ⟨A, hn, hdf, rfl, hM⟩ := hI
    refine wp_seq ?_
    refine wp_region_lit ?_
    refine T_val 21 hn hM rfl rfl rfl (v := (.bool false)) (g_int rfl rfl rfl rfl (lss_nat 80 80 false (decide_eq_false (by omega)))) ?_
    refine T_nil ?_
    refine wp_seq ?_
    refine C_condF hn rfl rfl ?_
    refine wp_exit ?_
    refine x_thenE ?_
    refine x_thenE ?_
    refine x_in ?_
    refine x_next ?_
    refine wp_seq ?_
    refine wp_region_lit ?_
    refine T_val 96 hn hM rfl rfl rfl (v := (.int .i64 0)) (g_move rfl rfl) ?_
    refine T_nil ?_
    refine wp_block ?_
    refine C_loop (fun k a w => ∃ A : Act, A.tmps.size = 115 ∧ A.defers = [] ∧ a = putAll A [(1, (.pointer (some ⟨pa, 0, none⟩))), (3, (.pointer (some ⟨b0, 0, none⟩))), (7, (.pointer (some ⟨b2, 0, none⟩))), (96, (.int .i64 ((k : Nat) : Int)))] ∧ Mem w0 [pa] w [⟨b2, (arr .u64 8 (mixX g1 (schS s 80) f 80)), 67, true⟩, ⟨b1, (arr .u64 80 (schS s 80)), 101, true⟩, ⟨b0, #[(.int .i64 64), (.int .i64 80), (.int .i64 1), (.int .i64 8), (.int .i64 7), (.int .i64 19), (.int .i64 61), (.int .i64 6), (.int .i64 28), (.int .i64 34), (.int .i64 39), (.int .i64 14), (.int .i64 18), (.int .i64 41)], 41, true⟩, ⟨pa, (arr .u64 8 (mixH f (mixX g1 (schS s 80) f 80) k)), 67, true⟩, ⟨1, (arr .u64 80 g1), 101, false⟩]) 8 ?_ ?_ ?_
    · skip
      exact frame_ex [(1, (.pointer (some ⟨pa, 0, none⟩))), (3, (.pointer (some ⟨b0, 0, none⟩))), (7, (.pointer (some ⟨b2, 0, none⟩))), (96, (.int .i64 ((0 : Nat) : Int)))] hn hdf rfl rfl ⟨rfl, rfl, rfl, rfl, trivial⟩ hM
    · intro k hk a w hI
      obtain ⟨A, hn, hdf, rfl, hM⟩ := hI
      refine wp_seq ?_
      refine wp_region_lit ?_
      refine T_val 97 hn hM rfl rfl rfl (v := (.bool true)) (g_int rfl rfl rfl rfl (lss_nat k 8 true (decide_eq_true (by omega)))) ?_
      refine T_nil ?_
      refine wp_seq ?_
      refine C_condT hn rfl rfl ?_
      refine wp_skip ?_
      refine x_next ?_
      refine wp_seq ?_
      refine wp_block ?_
      refine wp_seq ?_
      refine wp_region_lit ?_
      refine T_val 98 hn hM rfl rfl rfl (v := (.int .i64 ((k : Nat) : Int))) (g_move rfl rfl) ?_
      refine T_val 11 hn hM rfl rfl rfl (v := (.int .i64 ((k : Nat) : Int))) (g_assign rfl rfl) ?_
      refine T_nil ?_
      refine R_any [.val, .val, .val, .val, .val, .val, .val, .val, .val, .val, .val, .val, .val, .val] 14 [] [] hn hM rfl (by kernel_rfl) (by kernel_rfl) rfl rfl rfl ?_
      refine E_val 99 rfl rfl rfl rfl (v := (.pointer (some ⟨pa, 0, none⟩))) (g_move rfl rfl) ?_
      refine E_val 100 rfl rfl rfl rfl (v := (.int .i64 ((k : Nat) : Int))) (g_move rfl rfl) ?_
      refine E_val 101 rfl rfl rfl rfl (v := (.agg #[(.int .i64 64), (.int .i64 80), (.int .i64 1), (.int .i64 8), (.int .i64 7), (.int .i64 19), (.int .i64 61), (.int .i64 6), (.int .i64 28), (.int .i64 34), (.int .i64 39), (.int .i64 14), (.int .i64 18), (.int .i64 41)])) (g_loadRow 2 [(.int .i64 64), (.int .i64 80), (.int .i64 1), (.int .i64 8), (.int .i64 7), (.int .i64 19), (.int .i64 61), (.int .i64 6), (.int .i64 28), (.int .i64 34), (.int .i64 39), (.int .i64 14), (.int .i64 18), (.int .i64 41)] rfl rfl rfl Tryd.underlying41 rfl sz41 rfl) ?_
      refine E_val 102 rfl rfl rfl rfl (v := (.pointer (some ⟨pa, 0, none⟩))) (g_move rfl rfl) ?_
      refine E_val 103 rfl rfl rfl rfl (v := (.int .i64 ((k : Nat) : Int))) (g_move rfl rfl) ?_
      refine E_val 104 rfl rfl rfl rfl (v := (.pointer (some ⟨pa, 0, none⟩))) (g_nilCheck rfl rfl) ?_
      refine E_val 105 rfl rfl rfl rfl (v := (.pointer (some ⟨pa, k, none⟩))) (g_indexAddrN k k rfl rfl rfl Tryd.underlying67 Tryd.sizeOf27 (by omega) (by omega)) ?_
      refine E_val 106 rfl rfl rfl rfl (v := (.int .u64 ((mixH f (mixX g1 (schS s 80) f 80) k) k))) (g_loadOne 3 rfl rfl rfl Tryd.underlying27 rfl (arr_get (by omega))) ?_
      refine E_val 107 rfl rfl rfl rfl (v := (.int .i64 ((k : Nat) : Int))) (g_move rfl rfl) ?_
      refine E_val 108 rfl rfl rfl rfl (v := (.pointer (some ⟨b2, k, none⟩))) (g_indexAddrN k k rfl rfl rfl Tryd.underlying67 Tryd.sizeOf27 (by omega) (by omega)) ?_
      refine E_val 109 rfl rfl rfl rfl (v := (.int .u64 ((mixX g1 (schS s 80) f 80) k))) (g_loadOne 0 rfl rfl rfl Tryd.underlying27 rfl (arr_get (by omega))) ?_
      refine E_val 110 rfl rfl rfl rfl (v := (.int .u64 (iAdd .u64 ((mixH f (mixX g1 (schS s 80) f 80) k) k) ((mixX g1 (schS s 80) f 80) k)))) (g_int rfl rfl rfl rfl rfl) ?_
      refine E_call 111 rfl rfl rfl rfl (v := (.int .u64 (cut64 (iAdd .u64 ((mixH f (mixX g1 (schS s 80) f 80) k) k) ((mixX g1 (schS s 80) f 80) k))))) (g_call (cut64_E _) rfl rfl rfl Tryd.func54 nm54 bd54) ?_
      refine E_val 112 rfl rfl rfl rfl (v := (.pointer (some ⟨pa, 0, none⟩))) (g_nilCheck rfl rfl) ?_
      refine E_nil ?_
      refine ⟨?_, fun β4 w hM => ?_⟩
      · skip
        refine M_val rfl ?_
        refine M_val rfl ?_
        refine M_val rfl ?_
        refine M_val rfl ?_
        refine M_val rfl ?_
        refine M_val rfl ?_
        refine M_val rfl ?_
        refine M_val rfl ?_
        refine M_val rfl ?_
        refine M_val rfl ?_
        refine M_val rfl ?_
        refine M_val rfl ?_
        refine M_val rfl ?_
        refine M_val rfl ?_
        exact M_nil
      show wpList _ _ _ (_ :: _) (putAll _ (_)) _
      refine T_val 113 hn hM rfl rfl rfl (v := (.pointer (some ⟨pa, k, none⟩))) (g_indexAddrN k k rfl rfl rfl Tryd.underlying67 Tryd.sizeOf27 (by omega) (by omega)) ?_
      refine T_store 3 hn hM rfl rfl rfl rfl rfl rfl rfl (c' := (arr .u64 8 (mixH f (mixX g1 (schS s 80) f 80) (k + 1)))) (sets_arr sz27 (by omega) (fun q _ => rfl)) (fun w hM => ?_)
      replace hM : Mem _ _ w [⟨b2, (arr .u64 8 (mixX g1 (schS s 80) f 80)), 67, true⟩, ⟨b1, (arr .u64 80 (schS s 80)), 101, true⟩, ⟨b0, #[(.int .i64 64), (.int .i64 80), (.int .i64 1), (.int .i64 8), (.int .i64 7), (.int .i64 19), (.int .i64 61), (.int .i64 6), (.int .i64 28), (.int .i64 34), (.int .i64 39), (.int .i64 14), (.int .i64 18), (.int .i64 41)], 41, true⟩, ⟨pa, (arr .u64 8 (mixH f (mixX g1 (schS s 80) f 80) (k + 1))), 67, true⟩, ⟨1, (arr .u64 80 g1), 101, false⟩] := hM
      refine T_end ?_
      refine x_norm ?_
      refine x_next ?_
      refine wp_region_lit ?_
      refine T_val 114 hn hM rfl rfl rfl (v := (.int .i64 ((k + 1 : Nat) : Int))) (g_int rfl rfl rfl rfl (add_nat k 1 (by simp only [bitsOf]; omega))) ?_
      refine T_val 96 hn hM rfl rfl rfl (v := (.int .i64 ((k + 1 : Nat) : Int))) (g_move rfl rfl) ?_
      refine T_nil ?_
      exact frame_ex [(1, (.pointer (some ⟨pa, 0, none⟩))), (3, (.pointer (some ⟨b0, 0, none⟩))), (7, (.pointer (some ⟨b2, 0, none⟩))), (96, (.int .i64 (((k + 1) : Nat) : Int)))] hn hdf rfl rfl ⟨rfl, rfl, rfl, rfl, trivial⟩ hM
    · intro a w hI
      obtain ⟨A, hn, hdf, rfl, hM⟩ := hI
      refine wp_seq ?_
      refine wp_region_lit ?_
      refine T_val 97 hn hM rfl rfl rfl (v := (.bool false)) (g_int rfl rfl rfl rfl (lss_nat 8 8 false (decide_eq_false (by omega)))) ?_
      refine T_nil ?_
      refine wp_seq ?_
      refine C_condF hn rfl rfl ?_
      refine wp_exit ?_
      refine x_thenE ?_
      refine x_thenE ?_
      refine x_in ?_
      refine leave (.inr rfl) hn hdf hM rfl Tryd.results35 (vs := []) .nil ?_
      exact ⟨rfl, hM.wroteS [⟨pa, (arr .u64 8 (mixH f (mixX g1 (schS s 80) f 80) 8)), 67, true⟩] (.cons _ (.cons _ (.cons _ ((.cons_cons _ (.cons _ .slnil)))))) rfl⟩

end Go.Proofs.YtbonnnakebfniaaDoor

