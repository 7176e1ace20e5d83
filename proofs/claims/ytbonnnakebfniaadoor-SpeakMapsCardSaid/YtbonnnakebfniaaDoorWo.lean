/- field: Of. -/
import Derived.Test.YtbonnnakebfniaaDoorWb
namespace Go.Proofs.YtbonnnakebfniaaDoor
open Go Go.RowKit Num Mx


theorem sz27 : (Tryd.prog.info? 27).map (·.size) = some 1 := by kernel_rfl

set_option maxHeartbeats 1000000 in
set_option maxRecDepth 100000 in
theorem of_E (x : Nat) : ∃ c : El, IsL c (toF ((x % 2 ^ 255 : Nat) : Int)) ∧ Pure 7 #[.string (strOf 32 (dgF 8 x))] c.v := by
  have hx : x % 2 ^ 255 < 57896044618658097711785492504343953926634992332820282019728792003956564819968 := Nat.mod_lt _ (by decide)
  refine ⟨_, dig_is _ hx, fun w0 => ?_⟩
  rw [dig_eq _ hx, ← val_mod]
  refine enter Tryd.func7 rfl Tryd.ntmps7 (Nat.le_of_ble_eq_true rfl) fun A hn hdf => ?_
  have hM : Mem w0 [] w0 [] := Mem.start w0
  replace hM := hM
  refine wp_seq ?_
  refine wp_region_lit ?_
  refine T_alloc 2 hn hM rfl rfl rfl rfl Tryd.zeroValue30 (arr .u64 5 (fun _ => 0)) (by rfl) (fun b0 w hM => ?_)
  refine T_nil ?_
  refine wp_seq ?_
  refine wp_region_lit ?_
  refine T_alloc 3 hn hM rfl rfl rfl rfl Tryd.zeroValue30 (arr .u64 5 (fun _ => 0)) (by rfl) (fun b1 w hM => ?_)
  refine T_nil ?_
  refine wp_seq ?_
  refine wp_seq ?_
  refine wp_region_lit ?_
  refine T_val 7 hn hM rfl rfl rfl (v := (.string (strOf 32 (dgF 8 x)))) (g_move rfl rfl) ?_
  refine T_val 8 hn hM rfl rfl rfl (v := (.int .i64 32)) (g_lenStr rfl rfl Tryd.underlying9 (strOf_size 32 _)) ?_
  refine T_val 9 hn hM rfl rfl rfl (v := (.int .i64 32)) (g_min2 rfl rfl rfl rfl) ?_
  refine T_val 10 hn hM rfl rfl rfl (v := (.int .i64 0)) (g_move rfl rfl) ?_
  refine T_nil ?_
  refine wp_block ?_
  refine C_loop (fun i a w => ∃ A : Act, A.tmps.size = 43 ∧ A.defers = [] ∧ a = putAll A [(0, (.string (strOf 32 (dgF 8 x)))), (2, (.pointer (some ⟨b0, 0, none⟩))), (3, (.pointer (some ⟨b1, 0, none⟩))), (9, (.int .i64 32)), (10, (.int .i64 ((i : Nat) : Int)))] ∧ Mem w0 [] w [⟨b1, (arr .u64 5 (dgF 51 (val x.testBit (lm i 0)))), 30, true⟩, ⟨b0, (arr .u64 5 (fun _ => 0)), 30, true⟩]) 32 ?_ ?_ ?_
  · skip
    replace hM : Mem w0 [] w [⟨b1, (arr .u64 5 (dgF 51 (val x.testBit (lm 0 0)))), 30, true⟩, ⟨b0, (arr .u64 5 (fun _ => 0)), 30, true⟩] := by rw [show lm 0 0 = 0 from rfl, dgF_zero]; exact hM
    exact frame_ex [(0, (.string (strOf 32 (dgF 8 x)))), (2, (.pointer (some ⟨b0, 0, none⟩))), (3, (.pointer (some ⟨b1, 0, none⟩))), (9, (.int .i64 32)), (10, (.int .i64 ((0 : Nat) : Int)))] hn hdf rfl rfl ⟨rfl, rfl, rfl, rfl, rfl, trivial⟩ hM
  · intro i hi a w hI
    obtain ⟨A, hn, hdf, rfl, hM⟩ := hI
    refine wp_seq ?_
    refine wp_region_lit ?_
    refine T_val 11 hn hM rfl rfl rfl (v := (.bool true)) (g_int rfl rfl rfl rfl (lss_nat i 32 true (decide_eq_true (by omega)))) ?_
    refine T_nil ?_
    refine wp_seq ?_
    refine C_condT hn rfl rfl ?_
    refine wp_skip ?_
    refine x_next ?_
    refine wp_seq ?_
    refine wp_block ?_
    refine wp_seq ?_
    refine wp_region_lit ?_
    refine T_val 12 hn hM rfl rfl rfl (v := (.int .i64 ((i : Nat) : Int))) (g_move rfl rfl) ?_
    refine T_val 4 hn hM rfl rfl rfl (v := (.int .i64 ((i : Nat) : Int))) (g_assign rfl rfl) ?_
    refine T_nil ?_
    refine wp_seq ?_
    refine wp_region_lit ?_
    refine T_val 13 hn hM rfl rfl rfl (v := (.int .i64 0)) (g_move rfl rfl) ?_
    refine T_nil ?_
    refine wp_block ?_
    refine C_loop (fun k a w => ∃ A : Act, A.tmps.size = 43 ∧ A.defers = [] ∧ a = putAll A [(0, (.string (strOf 32 (dgF 8 x)))), (2, (.pointer (some ⟨b0, 0, none⟩))), (3, (.pointer (some ⟨b1, 0, none⟩))), (4, (.int .i64 ((i : Nat) : Int))), (9, (.int .i64 32)), (10, (.int .i64 ((i : Nat) : Int))), (13, (.int .i64 ((k : Nat) : Int)))] ∧ Mem w0 [] w [⟨b1, (arr .u64 5 (dgF 51 (val x.testBit (lm i k)))), 30, true⟩, ⟨b0, (arr .u64 5 (fun _ => 0)), 30, true⟩]) 8 ?_ ?_ ?_
    · skip
      exact frame_ex [(0, (.string (strOf 32 (dgF 8 x)))), (2, (.pointer (some ⟨b0, 0, none⟩))), (3, (.pointer (some ⟨b1, 0, none⟩))), (4, (.int .i64 ((i : Nat) : Int))), (9, (.int .i64 32)), (10, (.int .i64 ((i : Nat) : Int))), (13, (.int .i64 ((0 : Nat) : Int)))] hn hdf rfl rfl ⟨rfl, rfl, rfl, rfl, rfl, rfl, rfl, trivial⟩ hM
    · intro k hk a w hI
      obtain ⟨A, hn, hdf, rfl, hM⟩ := hI
      refine wp_seq ?_
      refine wp_region_lit ?_
      refine T_val 14 hn hM rfl rfl rfl (v := (.bool true)) (g_int rfl rfl rfl rfl (lss_nat k 8 true (decide_eq_true (by omega)))) ?_
      refine T_nil ?_
      refine wp_seq ?_
      refine C_condT hn rfl rfl ?_
      refine wp_skip ?_
      refine x_next ?_
      refine wp_seq ?_
      refine wp_block ?_
      refine wp_seq ?_
      refine wp_region_lit ?_
      refine T_val 15 hn hM rfl rfl rfl (v := (.int .i64 ((k : Nat) : Int))) (g_move rfl rfl) ?_
      refine T_val 5 hn hM rfl rfl rfl (v := (.int .i64 ((k : Nat) : Int))) (g_assign rfl rfl) ?_
      refine T_nil ?_
      refine wp_seq ?_
      refine wp_region_lit ?_
      refine T_val 16 hn hM rfl rfl rfl (v := (.int .i64 ((i : Nat) : Int))) (g_move rfl rfl) ?_
      refine T_val 17 hn hM rfl rfl rfl (v := (.int .i64 ((8 * i : Nat) : Int))) (g_int rfl rfl rfl rfl (mul_nat 8 i (by simp only [bitsOf]; omega))) ?_
      refine T_val 18 hn hM rfl rfl rfl (v := (.int .i64 ((k : Nat) : Int))) (g_move rfl rfl) ?_
      refine T_val 19 hn hM rfl rfl rfl (v := (.int .i64 (((8 * i) + k : Nat) : Int))) (g_int rfl rfl rfl rfl (add_nat (8 * i) k (by simp only [bitsOf]; omega))) ?_
      refine T_val 6 hn hM rfl rfl rfl (v := (.int .i64 (((8 * i) + k : Nat) : Int))) (g_assign rfl rfl) ?_
      refine T_nil ?_
      refine wp_seq ?_
      refine wp_region_lit ?_
      refine T_val 20 hn hM rfl rfl rfl (v := (.int .i64 (((8 * i) + k : Nat) : Int))) (g_move rfl rfl) ?_
      by_cases hsp : 8 * i + k < 255
      · skip
        rw [lm_lt hsp] at hM
        refine T_val 21 hn hM rfl rfl rfl (v := (.bool true)) (g_int rfl rfl rfl rfl (lss_nat (8 * i + k) 255 true (decide_eq_true hsp))) ?_
        refine T_nil ?_
        refine C_condT hn rfl rfl ?_
        refine R_any [.val, .val, .val, .val, .val, .val, .val, .val, .val, .val, .val, .val, .val, .val, .val, .val, .val] 17 [] [] hn hM rfl (by kernel_rfl) (by kernel_rfl) rfl rfl rfl ?_
        refine E_val 22 rfl rfl rfl rfl (v := (.int .i64 (((8 * i) + k : Nat) : Int))) (g_move rfl rfl) ?_
        refine E_val 23 rfl rfl rfl rfl (v := (.int .i64 ((((8 * i) + k) / 51 : Nat) : Int))) (g_quo rfl rfl rfl (by decide) (quo_nat ((8 * i) + k) 51 (by simp only [bitsOf]; omega))) ?_
        refine E_val 24 rfl rfl rfl rfl (v := (.pointer (some ⟨b1, 0, none⟩))) (g_fieldAddr rfl rfl Tryd.underlying30 rfl Tryd.sizeOf28 0 rfl) ?_
        refine E_val 25 rfl rfl rfl rfl (v := (.pointer (some ⟨b1, ((8 * i) + k) / 51, none⟩))) (g_indexAddrN (((8 * i) + k) / 51) (((8 * i) + k) / 51) rfl rfl rfl Tryd.underlying28 Tryd.sizeOf27 (by omega) (by omega)) ?_
        refine E_val 26 rfl rfl rfl rfl (v := (.int .u64 ((dg 51 (val x.testBit (8 * i + k)) (((8 * i) + k) / 51) : Nat) : Int))) (g_loadOne 0 rfl rfl rfl Tryd.underlying27 rfl (arr_get (by omega))) ?_
        refine E_val 27 rfl rfl rfl rfl (v := (.string (strOf 32 (dgF 8 x)))) (g_move rfl rfl) ?_
        refine E_val 28 rfl rfl rfl rfl (v := (.int .i64 ((i : Nat) : Int))) (g_move rfl rfl) ?_
        refine E_val 29 rfl rfl rfl rfl (v := (.int .u8 ((dg 8 x i : Nat) : Int))) (g_indexStr (f := dgF 8 x) i rfl rfl rfl Tryd.underlying9 (by omega) (dgF_bd x i)) ?_
        refine E_val 30 rfl rfl rfl rfl (v := (.int .i64 ((k : Nat) : Int))) (g_move rfl rfl) ?_
        refine E_val 31 rfl rfl rfl rfl (v := (.int .u8 ((dg 8 x i >>> k : Nat) : Int))) (g_shr rfl rfl rfl (shr_nat (k := .u8) _ _ (by simp only [IntKind.bits]; omega))) ?_
        refine E_val 32 rfl rfl rfl rfl (v := (.int .u8 (((x.testBit (8 * i + k)).toNat : Nat) : Int))) (g_int rfl rfl rfl rfl (and_bit' (by omega) (by decide))) ?_
        refine E_val 33 rfl rfl rfl rfl (v := (.int .u64 (((x.testBit (8 * i + k)).toNat : Nat) : Int))) (g_convInt rfl rfl Tryd.underlying5 Tryd.underlying27 (wrap_bit _)) ?_
        refine E_val 34 rfl rfl rfl rfl (v := (.int .i64 (((8 * i) + k : Nat) : Int))) (g_move rfl rfl) ?_
        refine E_val 35 rfl rfl rfl rfl (v := (.int .i64 ((((8 * i) + k) % 51 : Nat) : Int))) (g_rem rfl rfl rfl (by decide) (rem_nat ((8 * i) + k) 51)) ?_
        refine E_val 36 rfl rfl rfl rfl (v := (.int .u64 (((x.testBit (8 * i + k)).toNat <<< ((8 * i + k) % 51) : Nat) : Int))) (g_shl rfl rfl rfl (shl_bit _ (by simp only [bitsOf]; omega))) ?_
        refine E_val 37 rfl rfl rfl rfl (v := (.int .u64 ((dg 51 (val x.testBit (8 * i + k)) ((8 * i + k) / 51) ||| (x.testBit (8 * i + k)).toNat <<< ((8 * i + k) % 51) : Nat) : Int))) (g_int rfl rfl rfl rfl (or_bit _ (Nat.lt_of_lt_of_le (dg_lt 51 _ _) (by decide)) (by simp only [bitsOf]; omega))) ?_
        refine E_val 38 rfl rfl rfl rfl (v := (.pointer (some ⟨b1, 0, none⟩))) (g_fieldAddr rfl rfl Tryd.underlying30 rfl Tryd.sizeOf28 0 rfl) ?_
        refine E_nil ?_
        refine ⟨?_, fun β1 w hM => ?_⟩
        · skip
          refine M_val rfl ?_
          refine M_val rfl ?_
          refine M_val rfl ?_
          refine M_val rfl ?_
          refine M_val rfl ?_
          refine M_val rfl ?_
          refine M_val rfl ?_
          refine M_val rfl ?_
          refine M_val rfl ?_
          refine M_val rfl ?_
          refine M_val rfl ?_
          refine M_val rfl ?_
          refine M_val rfl ?_
          refine M_val rfl ?_
          refine M_val rfl ?_
          refine M_val rfl ?_
          refine M_val rfl ?_
          exact M_nil
        show wpList _ _ _ (_ :: _) (putAll _ (_)) _
        refine T_val 39 hn hM rfl rfl rfl (v := (.pointer (some ⟨b1, ((8 * i) + k) / 51, none⟩))) (g_indexAddrN (((8 * i) + k) / 51) (((8 * i) + k) / 51) rfl rfl rfl Tryd.underlying28 Tryd.sizeOf27 (by omega) (by omega)) ?_
        refine T_store 0 hn hM rfl rfl rfl rfl rfl rfl rfl (c' := (arr .u64 5 (dgF 51 (val x.testBit (8 * i + k + 1))))) (sets_arr sz27 (by omega) (fun q _ => dgF_step _ (by decide) q)) (fun w hM => ?_)
        replace hM : Mem _ _ w [⟨b1, (arr .u64 5 (dgF 51 (val x.testBit (8 * i + k + 1)))), 30, true⟩, ⟨b0, (arr .u64 5 (fun _ => 0)), 30, true⟩] := hM
        refine T_end ?_
        refine x_norm ?_
        refine x_next ?_
        refine wp_region_lit ?_
        refine T_val 40 hn hM rfl rfl rfl (v := (.int .i64 ((k + 1 : Nat) : Int))) (g_int rfl rfl rfl rfl (add_nat k 1 (by simp only [bitsOf]; omega))) ?_
        refine T_val 13 hn hM rfl rfl rfl (v := (.int .i64 ((k + 1 : Nat) : Int))) (g_move rfl rfl) ?_
        refine T_nil ?_
        have hM2 := hM.sub [⟨b1, (arr .u64 5 (dgF 51 (val x.testBit (8 * i + k + 1)))), 30, true⟩, ⟨b0, (arr .u64 5 (fun _ => 0)), 30, true⟩] ((List.Sublist.refl _))
        replace hM : Mem w0 [] w [⟨b1, (arr .u64 5 (dgF 51 (val x.testBit (lm i (k + 1))))), 30, true⟩, ⟨b0, (arr .u64 5 (fun _ => 0)), 30, true⟩] := by rw [lm_succ hsp]; exact hM
        exact frame_ex [(0, (.string (strOf 32 (dgF 8 x)))), (2, (.pointer (some ⟨b0, 0, none⟩))), (3, (.pointer (some ⟨b1, 0, none⟩))), (4, (.int .i64 ((i : Nat) : Int))), (9, (.int .i64 32)), (10, (.int .i64 ((i : Nat) : Int))), (13, (.int .i64 (((k + 1) : Nat) : Int)))] hn hdf rfl rfl ⟨rfl, rfl, rfl, rfl, rfl, rfl, rfl, trivial⟩ hM
      · skip
        refine T_val 21 hn hM rfl rfl rfl (v := (.bool false)) (g_int rfl rfl rfl rfl (lss_nat (8 * i + k) 255 false (decide_eq_false hsp))) ?_
        refine T_nil ?_
        refine C_condF hn rfl rfl ?_
        refine wp_skip ?_
        refine x_norm ?_
        refine x_next ?_
        refine wp_region_lit ?_
        refine T_val 40 hn hM rfl rfl rfl (v := (.int .i64 ((k + 1 : Nat) : Int))) (g_int rfl rfl rfl rfl (add_nat k 1 (by simp only [bitsOf]; omega))) ?_
        refine T_val 13 hn hM rfl rfl rfl (v := (.int .i64 ((k + 1 : Nat) : Int))) (g_move rfl rfl) ?_
        refine T_nil ?_
        have hM2 := hM.sub [⟨b1, (arr .u64 5 (dgF 51 (val x.testBit (lm i k)))), 30, true⟩, ⟨b0, (arr .u64 5 (fun _ => 0)), 30, true⟩] ((List.Sublist.refl _))
        replace hM : Mem w0 [] w [⟨b1, (arr .u64 5 (dgF 51 (val x.testBit (lm i (k + 1))))), 30, true⟩, ⟨b0, (arr .u64 5 (fun _ => 0)), 30, true⟩] := by rw [lm_ge hsp]; exact hM
        exact frame_ex [(0, (.string (strOf 32 (dgF 8 x)))), (2, (.pointer (some ⟨b0, 0, none⟩))), (3, (.pointer (some ⟨b1, 0, none⟩))), (4, (.int .i64 ((i : Nat) : Int))), (9, (.int .i64 32)), (10, (.int .i64 ((i : Nat) : Int))), (13, (.int .i64 (((k + 1) : Nat) : Int)))] hn hdf rfl rfl ⟨rfl, rfl, rfl, rfl, rfl, rfl, rfl, trivial⟩ hM
    · intro a w hI
      obtain ⟨A, hn, hdf, rfl, hM⟩ := hI
      refine wp_seq ?_
      refine wp_region_lit ?_
      refine T_val 14 hn hM rfl rfl rfl (v := (.bool false)) (g_int rfl rfl rfl rfl (lss_nat 8 8 false (decide_eq_false (by omega)))) ?_
      refine T_nil ?_
      refine wp_seq ?_
      refine C_condF hn rfl rfl ?_
      refine wp_exit ?_
      refine x_thenE ?_
      refine x_thenE ?_
      refine x_in ?_
      refine x_norm ?_
      refine x_next ?_
      refine wp_region_lit ?_
      refine T_val 41 hn hM rfl rfl rfl (v := (.int .i64 ((i + 1 : Nat) : Int))) (g_int rfl rfl rfl rfl (add_nat i 1 (by simp only [bitsOf]; omega))) ?_
      refine T_val 10 hn hM rfl rfl rfl (v := (.int .i64 ((i + 1 : Nat) : Int))) (g_move rfl rfl) ?_
      refine T_nil ?_
      have hM2 := hM.sub [⟨b1, (arr .u64 5 (dgF 51 (val x.testBit (lm i 8)))), 30, true⟩, ⟨b0, (arr .u64 5 (fun _ => 0)), 30, true⟩] ((List.Sublist.refl _))
      replace hM : Mem w0 [] w [⟨b1, (arr .u64 5 (dgF 51 (val x.testBit (lm (i + 1) 0)))), 30, true⟩, ⟨b0, (arr .u64 5 (fun _ => 0)), 30, true⟩] := by rw [lm_next]; exact hM
      exact frame_ex [(0, (.string (strOf 32 (dgF 8 x)))), (2, (.pointer (some ⟨b0, 0, none⟩))), (3, (.pointer (some ⟨b1, 0, none⟩))), (9, (.int .i64 32)), (10, (.int .i64 (((i + 1) : Nat) : Int)))] hn hdf rfl rfl ⟨rfl, rfl, rfl, rfl, rfl, trivial⟩ hM
  · intro a w hI
    obtain ⟨A, hn, hdf, rfl, hM⟩ := hI
    refine wp_seq ?_
    refine wp_region_lit ?_
    refine T_val 11 hn hM rfl rfl rfl (v := (.bool false)) (g_int rfl rfl rfl rfl (lss_nat 32 32 false (decide_eq_false (by omega)))) ?_
    refine T_nil ?_
    refine wp_seq ?_
    refine C_condF hn rfl rfl ?_
    refine wp_exit ?_
    refine x_thenE ?_
    refine x_thenE ?_
    refine x_in ?_
    refine x_next ?_
    refine wp_seq ?_
    refine wp_region_lit ?_
    refine T_val 42 hn hM rfl rfl rfl (v := (.agg (arr .u64 5 (dgF 51 (val x.testBit (lm 32 0)))))) (g_loadAll 0 rfl rfl rfl Tryd.underlying30 rfl (by rw [arr_len]; exact sz30)) ?_
    refine T_store 1 hn hM rfl rfl rfl rfl rfl rfl rfl (c' := (arr .u64 5 (dgF 51 (val x.testBit (lm 32 0))))) (sets_allA sz30 arr_len) (fun w hM => ?_)
    replace hM : Mem _ _ w [⟨b1, (arr .u64 5 (dgF 51 (val x.testBit (lm 32 0)))), 30, true⟩, ⟨b0, (arr .u64 5 (dgF 51 (val x.testBit (lm 32 0)))), 30, true⟩] := hM
    refine T_nil ?_
    refine wp_ret ?_
    refine leave (.inl rfl) hn hdf hM rfl Tryd.results7 (vs := [(.agg (arr .u64 5 (dgF 51 (val x.testBit (lm 32 0)))))]) (.row 1 rfl rfl Tryd.underlying30 rfl (by rw [arr_len]; exact sz30) .nil) ?_
    exact ⟨rfl, hM.done⟩

end Go.Proofs.YtbonnnakebfniaaDoor
