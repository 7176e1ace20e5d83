/- Stepping a function: a small region in every order, one by one; ways at a test that is not known. -/
import Derived.Test.YtbonnnakebfniaaDoorHd
namespace Go.Mx
open Go Go.RowKit
section
variable {P : Program} {ops : Array Oper} {Q : Exit → Act → World → Prop} {A : Act} {n : Nat} {o : Oper} {ps : Puts} {w0 w : World} {S : List Nat} {m : List Cl} {a : Act} {K : Act → World → Prop} {i f : Nat} {listed : Array Bool}

theorem U_op (ho : ops[i]? = some o) (h : wpList P ops (Exit.then K Q) [o] a w) : wpOp P ops Q i K a w := by
  unfold wpOp
  simp only [ho]
  unfold wpList at h
  by_cases hw : Region.wanted o (yielded ops a.tmps) = true
  · rw [if_pos hw] at h ⊢
    rcases h with h | ⟨h1, h2⟩
    · left
      unfold Oper.wp at h ⊢
      generalize (execOp a.eval o).run P w = r at *
      cases r with
      | halt x w' => cases x <;> exact h
      | ok x w' => cases x <;> exact h
    · exact .inr ⟨h1, h2⟩
  · rw [if_neg hw] at h ⊢
    exact h

theorem any_start {id : Nat} (hm : P.follows .mixedOrders = true) (hM : Mem w0 S w m) (h : ∀ w', Mem w0 S w' m → wpAny P .any ops Q ops.size (Array.replicate ops.size false) a w') : (Code.region id ops true).wp P Q a w :=
  wp_region_any hm (h _ (hM.low ((Below.refl _ _).drew)))

theorem any_done (hr : Region.ready .any ops listed = []) (h : Q .normal a w) : wpAny P .any ops Q f listed a w := by
  cases f with
  | zero => exact ⟨hr, h⟩
  | succ f => exact ⟨fun _ => h, fun i hi => by rw [hr] at hi; cases hi⟩
theorem any_1 {i1 : Nat} (hr : Region.ready .any ops listed = [i1]) (h1 : wpOp P ops Q i1 (wpAny P .any ops Q f (listed.setIfInBounds i1 true)) a w) : wpAny P .any ops Q (f + 1) listed a w := by
  refine ⟨fun h => (by rw [hr] at h; cases h), fun i hi => ?_⟩
  · rw [hr] at hi
    obtain rfl : i = i1 := by simpa using hi
    exact h1
theorem any_2 {i1 i2 : Nat} (hr : Region.ready .any ops listed = [i1, i2]) (h1 : wpOp P ops Q i1 (wpAny P .any ops Q f (listed.setIfInBounds i1 true)) a w) (h2 : wpOp P ops Q i2 (wpAny P .any ops Q f (listed.setIfInBounds i2 true)) a w) : wpAny P .any ops Q (f + 1) listed a w := by
  refine ⟨fun h => (by rw [hr] at h; cases h), fun i hi => ?_⟩
  · rw [hr] at hi
    have : i = i1 ∨ i = i2 := by simpa using hi
    rcases this with rfl | rfl
    · exact h1
    · exact h2
theorem any_3 {i1 i2 i3 : Nat} (hr : Region.ready .any ops listed = [i1, i2, i3]) (h1 : wpOp P ops Q i1 (wpAny P .any ops Q f (listed.setIfInBounds i1 true)) a w) (h2 : wpOp P ops Q i2 (wpAny P .any ops Q f (listed.setIfInBounds i2 true)) a w) (h3 : wpOp P ops Q i3 (wpAny P .any ops Q f (listed.setIfInBounds i3 true)) a w) : wpAny P .any ops Q (f + 1) listed a w := by
  refine ⟨fun h => (by rw [hr] at h; cases h), fun i hi => ?_⟩
  · rw [hr] at hi
    have : i = i1 ∨ i = i2 ∨ i = i3 := by simpa using hi
    rcases this with rfl | rfl | rfl
    · exact h1
    · exact h2
    · exact h3

theorem C_condS {c : Operand} {x y : Code} (b : Bool) (hn : A.tmps.size = n) (hb : okB n ps = true) (hc : ev A ps c = .bool b) (hT : b = true → x.wp P Q (putAll A ps) w) (hF : b = false → y.wp P Q (putAll A ps) w) : (Code.cond c x y).wp P Q (putAll A ps) w := by
  refine C_cond b hn hb hc ?_
  cases b
  · exact hF rfl
  · exact hT rfl

variable {ρ : Operand → Value}
/-- Two arrays that are the same. -/
theorem g_eqArrT {t u e : TypeId} {q : Nat} {k : IntKind} {x y : Operand} {f g : Nat → Int} (ho : o.op = .binOp .eql t x y u) (hx : ρ x = .agg (arr k q f)) (hy : ρ y = .agg (arr k q g)) (ht : P.underlying t = some (.array q e)) (he : P.underlying e = some (.int k)) (hs : ∀ w, (Go.sizeOf e).run P w = .ok 1 w) (hm : P.eqGuardType P.depth t = false)
    (h : ∀ i, i < q → f i = g i) : GV P w0 S m o ρ (.bool true) :=
  g_binOp ho hx hy fun w => by
    have : ((List.range q).all fun i => f i == g i) = true := by
      rw [List.all_eq_true]
      intro i hi
      simpa using h i (List.mem_range.1 hi)
    rw [Sem.run_bind, run_eqGuard_agg w _ _ _ _ _ _ hm, Result.andThen_ok, run_eql_struct, equalIn_arr ht he hs 9998 f g _ _ (fun i hi => arr_get hi) (fun i hi => arr_get hi), this]
    rfl
end

/-- A point's bytes: its y, and whether its x is odd. -/
def pkN (y : Nat) (odd : Bool) : Nat := if odd then y + 2 ^ 255 else y
theorem top_bit {y : Nat} (h : y < 2 ^ 255) (j : Nat) : (y + 2 ^ 255).testBit j = (y.testBit j || decide (j = 255)) := by
  have e : y + 2 ^ 255 = 2 ^ 255 * 1 ||| y := by rw [← Nat.two_pow_add_eq_or_of_lt h]; omega
  rw [e, Nat.testBit_or, Nat.mul_one, Nat.testBit_two_pow, Bool.or_comm]
  congr 1
  exact decide_eq_decide.2 eq_comm
theorem top_upd {y : Nat} (h : y < 2 ^ 255) : ∀ i, i < 32 → upd (dgF 8 y) 31 ((dg 8 y 31 ||| 128 : Nat) : Int) i = dgF 8 (pkN y true) i := by
  intro i hi
  unfold upd dgF pkN
  rw [if_pos rfl]
  by_cases h31 : i = 31
  · subst h31
    rw [if_pos rfl]
    congr 1
    refine Nat.eq_of_testBit_eq fun j => ?_
    rw [Nat.testBit_or, dg_bit, dg_bit, top_bit h, show 128 = 2 ^ 7 from rfl, Nat.testBit_two_pow]
    by_cases h8 : j < 8
    · have e : decide (7 = j) = decide (8 * 31 + j = 255) := decide_eq_decide.2 ⟨fun h => by omega, fun h => by omega⟩
      rw [e]; simp [h8]
    · have e : decide (7 = j) = false := by simp; omega
      rw [e]; simp [h8]
  · rw [if_neg h31]
    congr 1
    refine Nat.eq_of_testBit_eq fun j => ?_
    rw [dg_bit, dg_bit, top_bit h]
    by_cases h8 : j < 8
    · have e : decide (8 * i + j = 255) = false := by simp; omega
      rw [e]; simp
    · simp [h8]
theorem sign_bit (s : Nat) : intV .neq .u8 ((dg 8 s 31 &&& 128 : Nat) : Int) 0 = .bool (s.testBit 255) := by
  have h : (dg 8 s 31 &&& 128) = if s.testBit 255 then 128 else 0 := by
    refine Nat.eq_of_testBit_eq fun j => ?_
    rw [Nat.testBit_and, dg_bit, show 128 = 2 ^ 7 from rfl, Nat.testBit_two_pow]
    by_cases h7 : 7 = j
    · subst h7
      cases s.testBit 255 <;> simp <;> decide
    · have e7 : Nat.testBit 128 j = false := by
        rw [show 128 = 2 ^ 7 from rfl, Nat.testBit_two_pow]
        simpa using h7
      have : decide (7 = j) = false := by simpa using h7
      rw [this]
      cases s.testBit 255
      · simp
      · rw [if_pos rfl, e7, Bool.and_false]
  rw [h]
  cases s.testBit 255 <;> rfl
end Go.Mx

/- edsign: a point's bytes, reading, keys: what they come to. -/
namespace Go.Proofs.YtbonnnakebfniaaDoor
open Go Go.RowKit Num Mx

/-- A point's bytes, as a number. -/
noncomputable def encN (f : E4) : Nat := pkN (f.y * inv f.z).val (oddF (f.x * inv f.z))
/-- The x that is read, by its sign. -/
def sgn (b : Bool) (x : F) : F := if b then 0 - x else x
theorem val_lt255 (m : F) : m.val < 2 ^ 255 := Nat.lt_of_lt_of_le (fval_lt m) (Nat.le_of_eq (by decide))
end Go.Proofs.YtbonnnakebfniaaDoor

/- edsign: bytes, read. -/
namespace Go.Proofs.YtbonnnakebfniaaDoor
open Go Go.RowKit Num Mx



set_option maxHeartbeats 1000000 in
set_option maxRecDepth 100000 in
theorem bytesP_E {p : P4} {fp : E4} (hp : IsP p fp) : Pure 22 #[p.v] (.agg (arr .u8 32 (dgF 8 (encN fp)))) := by
  obtain ⟨c1, hc1, pc1⟩ := invert_E hp.z
  obtain ⟨c2, hc2, pc2⟩ := mul_E hp.y hc1
  obtain ⟨c3, hc3, pc3⟩ := mul_E hp.x hc1
  intro w0
  refine enter Tryd.func22 rfl Tryd.ntmps22 (Nat.le_of_ble_eq_true rfl) fun A hn hdf => ?_
  have hM : Mem w0 [] w0 [] := Mem.start w0
  replace hM := hM
  refine wp_seq ?_
  refine wp_region_lit ?_
  refine T_box 1 hn hM rfl rfl rfl rfl rfl #[(.int .u64 p.x.l0), (.int .u64 p.x.l1), (.int .u64 p.x.l2), (.int .u64 p.x.l3), (.int .u64 p.x.l4), (.int .u64 p.y.l0), (.int .u64 p.y.l1), (.int .u64 p.y.l2), (.int .u64 p.y.l3), (.int .u64 p.y.l4), (.int .u64 p.z.l0), (.int .u64 p.z.l1), (.int .u64 p.z.l2), (.int .u64 p.z.l3), (.int .u64 p.z.l4), (.int .u64 p.t.l0), (.int .u64 p.t.l1), (.int .u64 p.t.l2), (.int .u64 p.t.l3), (.int .u64 p.t.l4)] rfl (fun b0 w hM => ?_)
  refine T_alloc 2 hn hM rfl rfl rfl rfl Tryd.zeroValue22 (arr .u8 32 (fun _ => 0)) (by rfl) (fun b1 w hM => ?_)
  refine T_nil ?_
  refine wp_seq ?_
  refine wp_region_lit ?_
  refine T_val 5 hn hM rfl rfl rfl (v := (.pointer (some ⟨b0, 10, none⟩))) (g_fieldAddr rfl rfl Tryd.underlying49 rfl Tryd.sizeOf30 10 rfl) ?_
  refine T_val 6 hn hM rfl rfl rfl (v := (.agg #[(.int .u64 p.z.l0), (.int .u64 p.z.l1), (.int .u64 p.z.l2), (.int .u64 p.z.l3), (.int .u64 p.z.l4)])) (g_loadRow 1 [(.int .u64 p.z.l0), (.int .u64 p.z.l1), (.int .u64 p.z.l2), (.int .u64 p.z.l3), (.int .u64 p.z.l4)] rfl rfl rfl Tryd.underlying30 rfl sz30 rfl) ?_
  refine T_call 7 hn hM rfl rfl rfl (v := c1.v) (g_call pc1 rfl rfl rfl Tryd.func12 nm12 bd12) (fun w hM => ?_)
  refine T_alloc 3 hn hM rfl rfl rfl rfl Tryd.zeroValue30 #[(.int .u64 0), (.int .u64 0), (.int .u64 0), (.int .u64 0), (.int .u64 0)] rfl (fun b2 w hM => ?_)
  refine T_store 0 hn hM rfl rfl rfl rfl rfl rfl rfl (c' := #[(.int .u64 c1.l0), (.int .u64 c1.l1), (.int .u64 c1.l2), (.int .u64 c1.l3), (.int .u64 c1.l4)]) (sets_row sz30 rfl rfl rfl) (fun w hM => ?_)
  replace hM : Mem _ _ w [⟨b2, #[(.int .u64 c1.l0), (.int .u64 c1.l1), (.int .u64 c1.l2), (.int .u64 c1.l3), (.int .u64 c1.l4)], 30, true⟩, ⟨b1, (arr .u8 32 (fun _ => 0)), 22, true⟩, ⟨b0, #[(.int .u64 p.x.l0), (.int .u64 p.x.l1), (.int .u64 p.x.l2), (.int .u64 p.x.l3), (.int .u64 p.x.l4), (.int .u64 p.y.l0), (.int .u64 p.y.l1), (.int .u64 p.y.l2), (.int .u64 p.y.l3), (.int .u64 p.y.l4), (.int .u64 p.z.l0), (.int .u64 p.z.l1), (.int .u64 p.z.l2), (.int .u64 p.z.l3), (.int .u64 p.z.l4), (.int .u64 p.t.l0), (.int .u64 p.t.l1), (.int .u64 p.t.l2), (.int .u64 p.t.l3), (.int .u64 p.t.l4)], 49, true⟩] := hM
  refine T_nil ?_
  refine wp_seq ?_
  refine wp_region_lit ?_
  refine T_val 8 hn hM rfl rfl rfl (v := (.pointer (some ⟨b0, 5, none⟩))) (g_fieldAddr rfl rfl Tryd.underlying49 rfl Tryd.sizeOf30 5 rfl) ?_
  refine T_val 9 hn hM rfl rfl rfl (v := (.agg #[(.int .u64 p.y.l0), (.int .u64 p.y.l1), (.int .u64 p.y.l2), (.int .u64 p.y.l3), (.int .u64 p.y.l4)])) (g_loadRow 2 [(.int .u64 p.y.l0), (.int .u64 p.y.l1), (.int .u64 p.y.l2), (.int .u64 p.y.l3), (.int .u64 p.y.l4)] rfl rfl rfl Tryd.underlying30 rfl sz30 rfl) ?_
  refine T_val 10 hn hM rfl rfl rfl (v := (.agg #[(.int .u64 c1.l0), (.int .u64 c1.l1), (.int .u64 c1.l2), (.int .u64 c1.l3), (.int .u64 c1.l4)])) (g_loadRow 0 [(.int .u64 c1.l0), (.int .u64 c1.l1), (.int .u64 c1.l2), (.int .u64 c1.l3), (.int .u64 c1.l4)] rfl rfl rfl Tryd.underlying30 rfl sz30 rfl) ?_
  refine T_call 11 hn hM rfl rfl rfl (v := c2.v) (g_call pc2 rfl rfl rfl Tryd.func10 nm10 bd10) (fun w hM => ?_)
  refine T_call 12 hn hM rfl rfl rfl (v := (.agg (arr .u8 32 (dgF 8 (fp.y * (inv fp.z)).val)))) (g_call (bytes_E hc2) rfl rfl rfl Tryd.func13 nm13 bd13) (fun w hM => ?_)
  refine T_alloc 4 hn hM rfl rfl rfl rfl Tryd.zeroValue22 (arr .u8 32 (fun _ => 0)) (by rfl) (fun b3 w hM => ?_)
  refine T_store 0 hn hM rfl rfl rfl rfl rfl rfl rfl (c' := (arr .u8 32 (dgF 8 (fp.y * (inv fp.z)).val))) (sets_allA sz22 arr_len) (fun w hM => ?_)
  replace hM : Mem _ _ w [⟨b3, (arr .u8 32 (dgF 8 (fp.y * (inv fp.z)).val)), 22, true⟩, ⟨b2, #[(.int .u64 c1.l0), (.int .u64 c1.l1), (.int .u64 c1.l2), (.int .u64 c1.l3), (.int .u64 c1.l4)], 30, true⟩, ⟨b1, (arr .u8 32 (fun _ => 0)), 22, true⟩, ⟨b0, #[(.int .u64 p.x.l0), (.int .u64 p.x.l1), (.int .u64 p.x.l2), (.int .u64 p.x.l3), (.int .u64 p.x.l4), (.int .u64 p.y.l0), (.int .u64 p.y.l1), (.int .u64 p.y.l2), (.int .u64 p.y.l3), (.int .u64 p.y.l4), (.int .u64 p.z.l0), (.int .u64 p.z.l1), (.int .u64 p.z.l2), (.int .u64 p.z.l3), (.int .u64 p.z.l4), (.int .u64 p.t.l0), (.int .u64 p.t.l1), (.int .u64 p.t.l2), (.int .u64 p.t.l3), (.int .u64 p.t.l4)], 49, true⟩] := hM
  refine T_nil ?_
  refine wp_seq ?_
  refine wp_seq ?_
  refine wp_region_lit ?_
  refine T_val 13 hn hM rfl rfl rfl (v := (.pointer (some ⟨b0, 0, none⟩))) (g_fieldAddr rfl rfl Tryd.underlying49 rfl Tryd.sizeOf30 0 rfl) ?_
  refine T_val 14 hn hM rfl rfl rfl (v := (.agg #[(.int .u64 p.x.l0), (.int .u64 p.x.l1), (.int .u64 p.x.l2), (.int .u64 p.x.l3), (.int .u64 p.x.l4)])) (g_loadRow 3 [(.int .u64 p.x.l0), (.int .u64 p.x.l1), (.int .u64 p.x.l2), (.int .u64 p.x.l3), (.int .u64 p.x.l4)] rfl rfl rfl Tryd.underlying30 rfl sz30 rfl) ?_
  refine T_val 15 hn hM rfl rfl rfl (v := (.agg #[(.int .u64 c1.l0), (.int .u64 c1.l1), (.int .u64 c1.l2), (.int .u64 c1.l3), (.int .u64 c1.l4)])) (g_loadRow 1 [(.int .u64 c1.l0), (.int .u64 c1.l1), (.int .u64 c1.l2), (.int .u64 c1.l3), (.int .u64 c1.l4)] rfl rfl rfl Tryd.underlying30 rfl sz30 rfl) ?_
  refine T_call 16 hn hM rfl rfl rfl (v := c3.v) (g_call pc3 rfl rfl rfl Tryd.func10 nm10 bd10) (fun w hM => ?_)
  refine T_call 17 hn hM rfl rfl rfl (v := (.bool (oddF (fp.x * (inv fp.z))))) (g_call (odd_E' hc3) rfl rfl rfl Tryd.func44 nm44 bd44) (fun w hM => ?_)
  refine T_nil ?_
  refine C_condS (oddF (fp.x * (inv fp.z))) hn rfl rfl (fun hc => ?_) (fun hc => ?_)
  · skip
    refine wp_region_lit ?_
    refine T_val 18 hn hM rfl rfl rfl (v := (.pointer (some ⟨b3, 31, none⟩))) (g_indexAddr 31 rfl rfl rfl Tryd.underlying22 Tryd.sizeOf5 (by decide) rfl) ?_
    refine T_val 19 hn hM rfl rfl rfl (v := (.int .u8 ((dg 8 (fp.y * (inv fp.z)).val 31 : Nat) : Int))) (g_loadOne 0 rfl rfl rfl Tryd.underlying5 rfl (arr_get (by omega))) ?_
    refine T_val 20 hn hM rfl rfl rfl (v := (.int .u8 ((dg 8 (fp.y * (inv fp.z)).val 31 ||| 128 : Nat) : Int))) (g_int rfl rfl rfl rfl (or_nat _ 128 (dg_lt 8 _ _) (by decide))) ?_
    refine T_val 21 hn hM rfl rfl rfl (v := (.pointer (some ⟨b3, 31, none⟩))) (g_indexAddr 31 rfl rfl rfl Tryd.underlying22 Tryd.sizeOf5 (by decide) rfl) ?_
    refine T_store 0 hn hM rfl rfl rfl rfl rfl rfl rfl (c' := (arr .u8 32 (dgF 8 (pkN (fp.y * (inv fp.z)).val true)))) (sets_arr sz5 (by omega) (top_upd (val_lt255 _))) (fun w hM => ?_)
    replace hM : Mem _ _ w [⟨b3, (arr .u8 32 (dgF 8 (pkN (fp.y * (inv fp.z)).val true))), 22, true⟩, ⟨b2, #[(.int .u64 c1.l0), (.int .u64 c1.l1), (.int .u64 c1.l2), (.int .u64 c1.l3), (.int .u64 c1.l4)], 30, true⟩, ⟨b1, (arr .u8 32 (fun _ => 0)), 22, true⟩, ⟨b0, #[(.int .u64 p.x.l0), (.int .u64 p.x.l1), (.int .u64 p.x.l2), (.int .u64 p.x.l3), (.int .u64 p.x.l4), (.int .u64 p.y.l0), (.int .u64 p.y.l1), (.int .u64 p.y.l2), (.int .u64 p.y.l3), (.int .u64 p.y.l4), (.int .u64 p.z.l0), (.int .u64 p.z.l1), (.int .u64 p.z.l2), (.int .u64 p.z.l3), (.int .u64 p.z.l4), (.int .u64 p.t.l0), (.int .u64 p.t.l1), (.int .u64 p.t.l2), (.int .u64 p.t.l3), (.int .u64 p.t.l4)], 49, true⟩] := hM
    refine T_nil ?_
    refine wp_seq ?_
    refine wp_region_lit ?_
    refine T_val 22 hn hM rfl rfl rfl (v := (.agg (arr .u8 32 (dgF 8 (pkN (fp.y * (inv fp.z)).val true))))) (g_loadAll 0 rfl rfl rfl Tryd.underlying22 rfl (by rw [arr_len]; exact sz22)) ?_
    refine T_store 2 hn hM rfl rfl rfl rfl rfl rfl rfl (c' := (arr .u8 32 (dgF 8 (pkN (fp.y * (inv fp.z)).val true)))) (sets_allA sz22 arr_len) (fun w hM => ?_)
    replace hM : Mem _ _ w [⟨b3, (arr .u8 32 (dgF 8 (pkN (fp.y * (inv fp.z)).val true))), 22, true⟩, ⟨b2, #[(.int .u64 c1.l0), (.int .u64 c1.l1), (.int .u64 c1.l2), (.int .u64 c1.l3), (.int .u64 c1.l4)], 30, true⟩, ⟨b1, (arr .u8 32 (dgF 8 (pkN (fp.y * (inv fp.z)).val true))), 22, true⟩, ⟨b0, #[(.int .u64 p.x.l0), (.int .u64 p.x.l1), (.int .u64 p.x.l2), (.int .u64 p.x.l3), (.int .u64 p.x.l4), (.int .u64 p.y.l0), (.int .u64 p.y.l1), (.int .u64 p.y.l2), (.int .u64 p.y.l3), (.int .u64 p.y.l4), (.int .u64 p.z.l0), (.int .u64 p.z.l1), (.int .u64 p.z.l2), (.int .u64 p.z.l3), (.int .u64 p.z.l4), (.int .u64 p.t.l0), (.int .u64 p.t.l1), (.int .u64 p.t.l2), (.int .u64 p.t.l3), (.int .u64 p.t.l4)], 49, true⟩] := hM
    refine T_nil ?_
    refine wp_ret ?_
    refine leave (.inl rfl) hn hdf hM rfl Tryd.results22 (vs := [(.agg (arr .u8 32 (dgF 8 (pkN (fp.y * (inv fp.z)).val true))))]) (.row 2 rfl rfl Tryd.underlying22 rfl (by rw [arr_len]; exact sz22) .nil) ?_
    unfold encN; rw [hc]; exact ⟨rfl, hM.done⟩
  · skip
    refine wp_skip ?_
    refine x_next ?_
    refine wp_seq ?_
    refine wp_region_lit ?_
    refine T_val 22 hn hM rfl rfl rfl (v := (.agg (arr .u8 32 (dgF 8 (fp.y * (inv fp.z)).val)))) (g_loadAll 0 rfl rfl rfl Tryd.underlying22 rfl (by rw [arr_len]; exact sz22)) ?_
    refine T_store 2 hn hM rfl rfl rfl rfl rfl rfl rfl (c' := (arr .u8 32 (dgF 8 (fp.y * (inv fp.z)).val))) (sets_allA sz22 arr_len) (fun w hM => ?_)
    replace hM : Mem _ _ w [⟨b3, (arr .u8 32 (dgF 8 (fp.y * (inv fp.z)).val)), 22, true⟩, ⟨b2, #[(.int .u64 c1.l0), (.int .u64 c1.l1), (.int .u64 c1.l2), (.int .u64 c1.l3), (.int .u64 c1.l4)], 30, true⟩, ⟨b1, (arr .u8 32 (dgF 8 (fp.y * (inv fp.z)).val)), 22, true⟩, ⟨b0, #[(.int .u64 p.x.l0), (.int .u64 p.x.l1), (.int .u64 p.x.l2), (.int .u64 p.x.l3), (.int .u64 p.x.l4), (.int .u64 p.y.l0), (.int .u64 p.y.l1), (.int .u64 p.y.l2), (.int .u64 p.y.l3), (.int .u64 p.y.l4), (.int .u64 p.z.l0), (.int .u64 p.z.l1), (.int .u64 p.z.l2), (.int .u64 p.z.l3), (.int .u64 p.z.l4), (.int .u64 p.t.l0), (.int .u64 p.t.l1), (.int .u64 p.t.l2), (.int .u64 p.t.l3), (.int .u64 p.t.l4)], 49, true⟩] := hM
    refine T_nil ?_
    refine wp_ret ?_
    refine leave (.inl rfl) hn hdf hM rfl Tryd.results22 (vs := [(.agg (arr .u8 32 (dgF 8 (fp.y * (inv fp.z)).val)))]) (.row 2 rfl rfl Tryd.underlying22 rfl (by rw [arr_len]; exact sz22) .nil) ?_
    unfold encN; rw [hc]; exact ⟨rfl, hM.done⟩

theorem nm22 : (Tryd.f22.name == "runtime.NumGoroutine") = false := by kernel_rfl
theorem bd22 : Tryd.f22.body.isNone = false := by kernel_rfl

set_option maxHeartbeats 1000000 in
set_option maxRecDepth 100000 in
theorem readT_E {c : Cv} {fd : F} (hd : IsL c.d fd) (s : Nat) {R : F × Bool} (hR : (rootV (((toF ((s % 2 ^ 255 : Nat) : Int)) * (toF ((s % 2 ^ 255 : Nat) : Int))) - (toF 1)) ((fd * ((toF ((s % 2 ^ 255 : Nat) : Int)) * (toF ((s % 2 ^ 255 : Nat) : Int)))) + (toF 1))) = R) (hok : R.2 = true) (hsg : s.testBit 255 = true) (hen : encN ⟨(0 - R.1), (toF ((s % 2 ^ 255 : Nat) : Int)), toF 1, ((0 - R.1) * (toF ((s % 2 ^ 255 : Nat) : Int)))⟩ = s) : ∃ q : P4, ∀ (w0 : World) (bc : Nat), w0.heap[bc]? = some (.cells c.c 55 (0, 0)) → Calls Tryd.prog 29 #[.pointer (some ⟨bc, 0, none⟩), .agg (arr .u8 32 (dgF 8 s))] w0 fun e w' => e = .returned (.tuple #[q.v, .bool true]) ∧ Below w0.heap.size w0 w' := by
  obtain ⟨c1, hc1, pc1⟩ := of_E s
  obtain ⟨c2, hc2, pc2⟩ := across_E (d := c.d) (e := c.e) (x0 := c.x) (y0 := c.y) (z0 := c.z) (t0 := c.t) hd hc1
  rw [hR] at hc2 pc2
  rw [hok] at pc2
  obtain ⟨c3, hc3, pc3⟩ := neg_E hc2
  obtain ⟨c4, hc4, pc4⟩ := flat_E hc3 hc1
  have pb := bytesP_E (p := ⟨c3, c1, ⟨1, 0, 0, 0, 0⟩, c4⟩) (fp := ⟨(0 - R.1), (toF ((s % 2 ^ 255 : Nat) : Int)), toF 1, ((0 - R.1) * (toF ((s % 2 ^ 255 : Nat) : Int)))⟩) ⟨hc3, hc1, (small_E 1 (by decide)).1, hc4⟩
  refine ⟨⟨c3, c1, ⟨1, 0, 0, 0, 0⟩, c4⟩, fun w0 bc hcv => ?_⟩
  refine enter Tryd.func29 rfl Tryd.ntmps29 (Nat.le_of_ble_eq_true rfl) fun A hn hdf => ?_
  have hM : Mem w0 [] w0 [⟨bc, #[(.int .u64 c.d.l0), (.int .u64 c.d.l1), (.int .u64 c.d.l2), (.int .u64 c.d.l3), (.int .u64 c.d.l4), (.int .u64 c.e.l0), (.int .u64 c.e.l1), (.int .u64 c.e.l2), (.int .u64 c.e.l3), (.int .u64 c.e.l4), (.int .u64 c.x.l0), (.int .u64 c.x.l1), (.int .u64 c.x.l2), (.int .u64 c.x.l3), (.int .u64 c.x.l4), (.int .u64 c.y.l0), (.int .u64 c.y.l1), (.int .u64 c.y.l2), (.int .u64 c.y.l3), (.int .u64 c.y.l4), (.int .u64 c.z.l0), (.int .u64 c.z.l1), (.int .u64 c.z.l2), (.int .u64 c.z.l3), (.int .u64 c.z.l4), (.int .u64 c.t.l0), (.int .u64 c.t.l1), (.int .u64 c.t.l2), (.int .u64 c.t.l3), (.int .u64 c.t.l4)], 55, false⟩] := Mem.read1 w0 hcv
  replace hM := hM
  refine wp_seq ?_
  refine wp_region_lit ?_
  refine T_box 3 hn hM rfl rfl rfl rfl rfl (arr .u8 32 (dgF 8 s)) rfl (fun b0 w hM => ?_)
  refine T_alloc 4 hn hM rfl rfl rfl rfl Tryd.zeroValue49 #[(.int .u64 0), (.int .u64 0), (.int .u64 0), (.int .u64 0), (.int .u64 0), (.int .u64 0), (.int .u64 0), (.int .u64 0), (.int .u64 0), (.int .u64 0), (.int .u64 0), (.int .u64 0), (.int .u64 0), (.int .u64 0), (.int .u64 0), (.int .u64 0), (.int .u64 0), (.int .u64 0), (.int .u64 0), (.int .u64 0)] rfl (fun b1 w hM => ?_)
  refine T_val 5 hn hM rfl rfl rfl (v := (.bool false)) (g_assign rfl rfl) ?_
  refine T_nil ?_
  refine wp_seq ?_
  refine wp_region_lit ?_
  refine T_val 10 hn hM rfl rfl rfl (v := (.slice (some ⟨b0, 0, none⟩) 32 32)) (g_sliceArr rfl rfl Tryd.underlying22 Tryd.sizeOf5) ?_
  refine T_val 11 hn hM rfl rfl rfl (v := (.string (strOf 32 (dgF 8 s)))) (g_bytesStr 1 rfl rfl rfl (by omega) Tryd.underlying25 Tryd.underlying5 Tryd.underlying9) ?_
  refine T_call 12 hn hM rfl rfl rfl (v := c1.v) (g_call pc1 rfl rfl rfl Tryd.func7 nm7 bd7) (fun w hM => ?_)
  refine T_alloc 6 hn hM rfl rfl rfl rfl Tryd.zeroValue30 #[(.int .u64 0), (.int .u64 0), (.int .u64 0), (.int .u64 0), (.int .u64 0)] rfl (fun b2 w hM => ?_)
  refine T_store 0 hn hM rfl rfl rfl rfl rfl rfl rfl (c' := #[(.int .u64 c1.l0), (.int .u64 c1.l1), (.int .u64 c1.l2), (.int .u64 c1.l3), (.int .u64 c1.l4)]) (sets_row sz30 rfl rfl rfl) (fun w hM => ?_)
  replace hM : Mem _ _ w [⟨b2, #[(.int .u64 c1.l0), (.int .u64 c1.l1), (.int .u64 c1.l2), (.int .u64 c1.l3), (.int .u64 c1.l4)], 30, true⟩, ⟨b1, #[(.int .u64 0), (.int .u64 0), (.int .u64 0), (.int .u64 0), (.int .u64 0), (.int .u64 0), (.int .u64 0), (.int .u64 0), (.int .u64 0), (.int .u64 0), (.int .u64 0), (.int .u64 0), (.int .u64 0), (.int .u64 0), (.int .u64 0), (.int .u64 0), (.int .u64 0), (.int .u64 0), (.int .u64 0), (.int .u64 0)], 49, true⟩, ⟨b0, (arr .u8 32 (dgF 8 s)), 22, true⟩, ⟨bc, #[(.int .u64 c.d.l0), (.int .u64 c.d.l1), (.int .u64 c.d.l2), (.int .u64 c.d.l3), (.int .u64 c.d.l4), (.int .u64 c.e.l0), (.int .u64 c.e.l1), (.int .u64 c.e.l2), (.int .u64 c.e.l3), (.int .u64 c.e.l4), (.int .u64 c.x.l0), (.int .u64 c.x.l1), (.int .u64 c.x.l2), (.int .u64 c.x.l3), (.int .u64 c.x.l4), (.int .u64 c.y.l0), (.int .u64 c.y.l1), (.int .u64 c.y.l2), (.int .u64 c.y.l3), (.int .u64 c.y.l4), (.int .u64 c.z.l0), (.int .u64 c.z.l1), (.int .u64 c.z.l2), (.int .u64 c.z.l3), (.int .u64 c.z.l4), (.int .u64 c.t.l0), (.int .u64 c.t.l1), (.int .u64 c.t.l2), (.int .u64 c.t.l3), (.int .u64 c.t.l4)], 55, false⟩] := hM
  refine T_nil ?_
  refine wp_seq ?_
  refine wp_region_lit ?_
  refine T_val 14 hn hM rfl rfl rfl (v := (.pointer (some ⟨bc, 0, none⟩))) (g_move rfl rfl) ?_
  refine T_val 15 hn hM rfl rfl rfl (v := (.agg #[(.int .u64 c1.l0), (.int .u64 c1.l1), (.int .u64 c1.l2), (.int .u64 c1.l3), (.int .u64 c1.l4)])) (g_loadRow 0 [(.int .u64 c1.l0), (.int .u64 c1.l1), (.int .u64 c1.l2), (.int .u64 c1.l3), (.int .u64 c1.l4)] rfl rfl rfl Tryd.underlying30 rfl sz30 rfl) ?_
  refine T_call 16 hn hM rfl rfl rfl (v := (.tuple #[c2.v, (.bool true)])) (g_callM (fun w hM => pc2 w _ (hM.get 3 rfl)) rfl rfl rfl Tryd.func39 nm39 bd39) (fun w hM => ?_)
  refine T_val 13 hn hM rfl rfl rfl (v := (.tuple #[c2.v, (.bool true)])) (g_move rfl rfl) ?_
  refine T_val 17 hn hM rfl rfl rfl (v := c2.v) (g_extract rfl rfl rfl) ?_
  refine T_val 18 hn hM rfl rfl rfl (v := (.bool true)) (g_extract rfl rfl rfl) ?_
  refine T_alloc 7 hn hM rfl rfl rfl rfl Tryd.zeroValue30 #[(.int .u64 0), (.int .u64 0), (.int .u64 0), (.int .u64 0), (.int .u64 0)] rfl (fun b3 w hM => ?_)
  refine T_store 0 hn hM rfl rfl rfl rfl rfl rfl rfl (c' := #[(.int .u64 c2.l0), (.int .u64 c2.l1), (.int .u64 c2.l2), (.int .u64 c2.l3), (.int .u64 c2.l4)]) (sets_row sz30 rfl rfl rfl) (fun w hM => ?_)
  replace hM : Mem _ _ w [⟨b3, #[(.int .u64 c2.l0), (.int .u64 c2.l1), (.int .u64 c2.l2), (.int .u64 c2.l3), (.int .u64 c2.l4)], 30, true⟩, ⟨b2, #[(.int .u64 c1.l0), (.int .u64 c1.l1), (.int .u64 c1.l2), (.int .u64 c1.l3), (.int .u64 c1.l4)], 30, true⟩, ⟨b1, #[(.int .u64 0), (.int .u64 0), (.int .u64 0), (.int .u64 0), (.int .u64 0), (.int .u64 0), (.int .u64 0), (.int .u64 0), (.int .u64 0), (.int .u64 0), (.int .u64 0), (.int .u64 0), (.int .u64 0), (.int .u64 0), (.int .u64 0), (.int .u64 0), (.int .u64 0), (.int .u64 0), (.int .u64 0), (.int .u64 0)], 49, true⟩, ⟨b0, (arr .u8 32 (dgF 8 s)), 22, true⟩, ⟨bc, #[(.int .u64 c.d.l0), (.int .u64 c.d.l1), (.int .u64 c.d.l2), (.int .u64 c.d.l3), (.int .u64 c.d.l4), (.int .u64 c.e.l0), (.int .u64 c.e.l1), (.int .u64 c.e.l2), (.int .u64 c.e.l3), (.int .u64 c.e.l4), (.int .u64 c.x.l0), (.int .u64 c.x.l1), (.int .u64 c.x.l2), (.int .u64 c.x.l3), (.int .u64 c.x.l4), (.int .u64 c.y.l0), (.int .u64 c.y.l1), (.int .u64 c.y.l2), (.int .u64 c.y.l3), (.int .u64 c.y.l4), (.int .u64 c.z.l0), (.int .u64 c.z.l1), (.int .u64 c.z.l2), (.int .u64 c.z.l3), (.int .u64 c.z.l4), (.int .u64 c.t.l0), (.int .u64 c.t.l1), (.int .u64 c.t.l2), (.int .u64 c.t.l3), (.int .u64 c.t.l4)], 55, false⟩] := hM
  refine T_val 8 hn hM rfl rfl rfl (v := (.bool true)) (g_assign rfl rfl) ?_
  refine T_nil ?_
  refine wp_seq ?_
  refine wp_seq ?_
  refine wp_region_lit ?_
  refine T_val 19 hn hM rfl rfl rfl (v := (.pointer (some ⟨b0, 31, none⟩))) (g_indexAddr 31 rfl rfl rfl Tryd.underlying22 Tryd.sizeOf5 (by decide) rfl) ?_
  refine T_val 20 hn hM rfl rfl rfl (v := (.int .u8 ((dg 8 s 31 : Nat) : Int))) (g_loadOne 3 rfl rfl rfl Tryd.underlying5 rfl (arr_get (by omega))) ?_
  refine T_val 21 hn hM rfl rfl rfl (v := (.int .u8 ((dg 8 s 31 &&& 128 : Nat) : Int))) (g_int rfl rfl rfl rfl (and_nat _ 128 (dg_lt 8 _ _) (by decide))) ?_
  refine T_val 22 hn hM rfl rfl rfl (v := (.bool true)) (g_int rfl rfl rfl rfl (by rw [sign_bit, hsg])) ?_
  refine T_nil ?_
  refine C_condT hn rfl rfl ?_
  refine wp_region_lit ?_
  refine T_val 23 hn hM rfl rfl rfl (v := (.agg #[(.int .u64 c2.l0), (.int .u64 c2.l1), (.int .u64 c2.l2), (.int .u64 c2.l3), (.int .u64 c2.l4)])) (g_loadRow 0 [(.int .u64 c2.l0), (.int .u64 c2.l1), (.int .u64 c2.l2), (.int .u64 c2.l3), (.int .u64 c2.l4)] rfl rfl rfl Tryd.underlying30 rfl sz30 rfl) ?_
  refine T_call 24 hn hM rfl rfl rfl (v := c3.v) (g_call pc3 rfl rfl rfl Tryd.func38 nm38 bd38) (fun w hM => ?_)
  refine T_store 0 hn hM rfl rfl rfl rfl rfl rfl rfl (c' := #[(.int .u64 c3.l0), (.int .u64 c3.l1), (.int .u64 c3.l2), (.int .u64 c3.l3), (.int .u64 c3.l4)]) (sets_row sz30 rfl rfl rfl) (fun w hM => ?_)
  replace hM : Mem _ _ w [⟨b3, #[(.int .u64 c3.l0), (.int .u64 c3.l1), (.int .u64 c3.l2), (.int .u64 c3.l3), (.int .u64 c3.l4)], 30, true⟩, ⟨b2, #[(.int .u64 c1.l0), (.int .u64 c1.l1), (.int .u64 c1.l2), (.int .u64 c1.l3), (.int .u64 c1.l4)], 30, true⟩, ⟨b1, #[(.int .u64 0), (.int .u64 0), (.int .u64 0), (.int .u64 0), (.int .u64 0), (.int .u64 0), (.int .u64 0), (.int .u64 0), (.int .u64 0), (.int .u64 0), (.int .u64 0), (.int .u64 0), (.int .u64 0), (.int .u64 0), (.int .u64 0), (.int .u64 0), (.int .u64 0), (.int .u64 0), (.int .u64 0), (.int .u64 0)], 49, true⟩, ⟨b0, (arr .u8 32 (dgF 8 s)), 22, true⟩, ⟨bc, #[(.int .u64 c.d.l0), (.int .u64 c.d.l1), (.int .u64 c.d.l2), (.int .u64 c.d.l3), (.int .u64 c.d.l4), (.int .u64 c.e.l0), (.int .u64 c.e.l1), (.int .u64 c.e.l2), (.int .u64 c.e.l3), (.int .u64 c.e.l4), (.int .u64 c.x.l0), (.int .u64 c.x.l1), (.int .u64 c.x.l2), (.int .u64 c.x.l3), (.int .u64 c.x.l4), (.int .u64 c.y.l0), (.int .u64 c.y.l1), (.int .u64 c.y.l2), (.int .u64 c.y.l3), (.int .u64 c.y.l4), (.int .u64 c.z.l0), (.int .u64 c.z.l1), (.int .u64 c.z.l2), (.int .u64 c.z.l3), (.int .u64 c.z.l4), (.int .u64 c.t.l0), (.int .u64 c.t.l1), (.int .u64 c.t.l2), (.int .u64 c.t.l3), (.int .u64 c.t.l4)], 55, false⟩] := hM
  refine T_nil ?_
  refine wp_seq ?_
  refine wp_region_lit ?_
  refine T_val 25 hn hM rfl rfl rfl (v := (.agg #[(.int .u64 c3.l0), (.int .u64 c3.l1), (.int .u64 c3.l2), (.int .u64 c3.l3), (.int .u64 c3.l4)])) (g_loadRow 0 [(.int .u64 c3.l0), (.int .u64 c3.l1), (.int .u64 c3.l2), (.int .u64 c3.l3), (.int .u64 c3.l4)] rfl rfl rfl Tryd.underlying30 rfl sz30 rfl) ?_
  refine T_val 26 hn hM rfl rfl rfl (v := (.agg #[(.int .u64 c1.l0), (.int .u64 c1.l1), (.int .u64 c1.l2), (.int .u64 c1.l3), (.int .u64 c1.l4)])) (g_loadRow 1 [(.int .u64 c1.l0), (.int .u64 c1.l1), (.int .u64 c1.l2), (.int .u64 c1.l3), (.int .u64 c1.l4)] rfl rfl rfl Tryd.underlying30 rfl sz30 rfl) ?_
  refine T_call 27 hn hM rfl rfl rfl (v := (.agg #[(.int .u64 c3.l0), (.int .u64 c3.l1), (.int .u64 c3.l2), (.int .u64 c3.l3), (.int .u64 c3.l4), (.int .u64 c1.l0), (.int .u64 c1.l1), (.int .u64 c1.l2), (.int .u64 c1.l3), (.int .u64 c1.l4), (.int .u64 1), (.int .u64 0), (.int .u64 0), (.int .u64 0), (.int .u64 0), (.int .u64 c4.l0), (.int .u64 c4.l1), (.int .u64 c4.l2), (.int .u64 c4.l3), (.int .u64 c4.l4)])) (g_call pc4 rfl rfl rfl Tryd.func40 nm40 bd40) (fun w hM => ?_)
  refine T_alloc 9 hn hM rfl rfl rfl rfl Tryd.zeroValue49 #[(.int .u64 0), (.int .u64 0), (.int .u64 0), (.int .u64 0), (.int .u64 0), (.int .u64 0), (.int .u64 0), (.int .u64 0), (.int .u64 0), (.int .u64 0), (.int .u64 0), (.int .u64 0), (.int .u64 0), (.int .u64 0), (.int .u64 0), (.int .u64 0), (.int .u64 0), (.int .u64 0), (.int .u64 0), (.int .u64 0)] rfl (fun b4 w hM => ?_)
  refine T_store 0 hn hM rfl rfl rfl rfl rfl rfl rfl (c' := #[(.int .u64 c3.l0), (.int .u64 c3.l1), (.int .u64 c3.l2), (.int .u64 c3.l3), (.int .u64 c3.l4), (.int .u64 c1.l0), (.int .u64 c1.l1), (.int .u64 c1.l2), (.int .u64 c1.l3), (.int .u64 c1.l4), (.int .u64 1), (.int .u64 0), (.int .u64 0), (.int .u64 0), (.int .u64 0), (.int .u64 c4.l0), (.int .u64 c4.l1), (.int .u64 c4.l2), (.int .u64 c4.l3), (.int .u64 c4.l4)]) (sets_row sz49 rfl rfl rfl) (fun w hM => ?_)
  replace hM : Mem _ _ w [⟨b4, #[(.int .u64 c3.l0), (.int .u64 c3.l1), (.int .u64 c3.l2), (.int .u64 c3.l3), (.int .u64 c3.l4), (.int .u64 c1.l0), (.int .u64 c1.l1), (.int .u64 c1.l2), (.int .u64 c1.l3), (.int .u64 c1.l4), (.int .u64 1), (.int .u64 0), (.int .u64 0), (.int .u64 0), (.int .u64 0), (.int .u64 c4.l0), (.int .u64 c4.l1), (.int .u64 c4.l2), (.int .u64 c4.l3), (.int .u64 c4.l4)], 49, true⟩, ⟨b3, #[(.int .u64 c3.l0), (.int .u64 c3.l1), (.int .u64 c3.l2), (.int .u64 c3.l3), (.int .u64 c3.l4)], 30, true⟩, ⟨b2, #[(.int .u64 c1.l0), (.int .u64 c1.l1), (.int .u64 c1.l2), (.int .u64 c1.l3), (.int .u64 c1.l4)], 30, true⟩, ⟨b1, #[(.int .u64 0), (.int .u64 0), (.int .u64 0), (.int .u64 0), (.int .u64 0), (.int .u64 0), (.int .u64 0), (.int .u64 0), (.int .u64 0), (.int .u64 0), (.int .u64 0), (.int .u64 0), (.int .u64 0), (.int .u64 0), (.int .u64 0), (.int .u64 0), (.int .u64 0), (.int .u64 0), (.int .u64 0), (.int .u64 0)], 49, true⟩, ⟨b0, (arr .u8 32 (dgF 8 s)), 22, true⟩, ⟨bc, #[(.int .u64 c.d.l0), (.int .u64 c.d.l1), (.int .u64 c.d.l2), (.int .u64 c.d.l3), (.int .u64 c.d.l4), (.int .u64 c.e.l0), (.int .u64 c.e.l1), (.int .u64 c.e.l2), (.int .u64 c.e.l3), (.int .u64 c.e.l4), (.int .u64 c.x.l0), (.int .u64 c.x.l1), (.int .u64 c.x.l2), (.int .u64 c.x.l3), (.int .u64 c.x.l4), (.int .u64 c.y.l0), (.int .u64 c.y.l1), (.int .u64 c.y.l2), (.int .u64 c.y.l3), (.int .u64 c.y.l4), (.int .u64 c.z.l0), (.int .u64 c.z.l1), (.int .u64 c.z.l2), (.int .u64 c.z.l3), (.int .u64 c.z.l4), (.int .u64 c.t.l0), (.int .u64 c.t.l1), (.int .u64 c.t.l2), (.int .u64 c.t.l3), (.int .u64 c.t.l4)], 55, false⟩] := hM
  refine T_nil ?_
  refine wp_seq ?_
  refine R_put [.val, .val, .val, .val, .val, .val, .val, .val, .put] 9 [] [] 8 3 (x0 := ⟨b1, #[(.int .u64 0), (.int .u64 0), (.int .u64 0), (.int .u64 0), (.int .u64 0), (.int .u64 0), (.int .u64 0), (.int .u64 0), (.int .u64 0), (.int .u64 0), (.int .u64 0), (.int .u64 0), (.int .u64 0), (.int .u64 0), (.int .u64 0), (.int .u64 0), (.int .u64 0), (.int .u64 0), (.int .u64 0), (.int .u64 0)], 49, true⟩) #[(.int .u64 c3.l0), (.int .u64 c3.l1), (.int .u64 c3.l2), (.int .u64 c3.l3), (.int .u64 c3.l4), (.int .u64 c1.l0), (.int .u64 c1.l1), (.int .u64 c1.l2), (.int .u64 c1.l3), (.int .u64 c1.l4), (.int .u64 1), (.int .u64 0), (.int .u64 0), (.int .u64 0), (.int .u64 0), (.int .u64 c4.l0), (.int .u64 c4.l1), (.int .u64 c4.l2), (.int .u64 c4.l3), (.int .u64 c4.l4)] hn hM rfl (by kernel_rfl) (by kernel_rfl) rfl rfl rfl (by decide) rfl rfl rfl ?_
  refine E_val 28 rfl rfl rfl rfl (v := (.agg #[(.int .u64 c3.l0), (.int .u64 c3.l1), (.int .u64 c3.l2), (.int .u64 c3.l3), (.int .u64 c3.l4), (.int .u64 c1.l0), (.int .u64 c1.l1), (.int .u64 c1.l2), (.int .u64 c1.l3), (.int .u64 c1.l4), (.int .u64 1), (.int .u64 0), (.int .u64 0), (.int .u64 0), (.int .u64 0), (.int .u64 c4.l0), (.int .u64 c4.l1), (.int .u64 c4.l2), (.int .u64 c4.l3), (.int .u64 c4.l4)])) (g_loadRow 0 [(.int .u64 c3.l0), (.int .u64 c3.l1), (.int .u64 c3.l2), (.int .u64 c3.l3), (.int .u64 c3.l4), (.int .u64 c1.l0), (.int .u64 c1.l1), (.int .u64 c1.l2), (.int .u64 c1.l3), (.int .u64 c1.l4), (.int .u64 1), (.int .u64 0), (.int .u64 0), (.int .u64 0), (.int .u64 0), (.int .u64 c4.l0), (.int .u64 c4.l1), (.int .u64 c4.l2), (.int .u64 c4.l3), (.int .u64 c4.l4)] rfl rfl rfl Tryd.underlying49 rfl sz49 rfl) ?_
  refine E_val 29 rfl rfl rfl rfl (v := (.bool true)) (g_move rfl rfl) ?_
  refine E_val 30 rfl rfl rfl rfl (v := (.bool true)) (g_move rfl rfl) ?_
  refine E_val 31 rfl rfl rfl rfl (v := (.agg #[(.int .u64 c3.l0), (.int .u64 c3.l1), (.int .u64 c3.l2), (.int .u64 c3.l3), (.int .u64 c3.l4), (.int .u64 c1.l0), (.int .u64 c1.l1), (.int .u64 c1.l2), (.int .u64 c1.l3), (.int .u64 c1.l4), (.int .u64 1), (.int .u64 0), (.int .u64 0), (.int .u64 0), (.int .u64 0), (.int .u64 c4.l0), (.int .u64 c4.l1), (.int .u64 c4.l2), (.int .u64 c4.l3), (.int .u64 c4.l4)])) (g_loadRow 0 [(.int .u64 c3.l0), (.int .u64 c3.l1), (.int .u64 c3.l2), (.int .u64 c3.l3), (.int .u64 c3.l4), (.int .u64 c1.l0), (.int .u64 c1.l1), (.int .u64 c1.l2), (.int .u64 c1.l3), (.int .u64 c1.l4), (.int .u64 1), (.int .u64 0), (.int .u64 0), (.int .u64 0), (.int .u64 0), (.int .u64 c4.l0), (.int .u64 c4.l1), (.int .u64 c4.l2), (.int .u64 c4.l3), (.int .u64 c4.l4)] rfl rfl rfl Tryd.underlying49 rfl sz49 rfl) ?_
  refine E_call 32 rfl rfl rfl rfl (v := (.agg (arr .u8 32 (dgF 8 (encN ⟨(0 - R.1), (toF ((s % 2 ^ 255 : Nat) : Int)), toF 1, ((0 - R.1) * (toF ((s % 2 ^ 255 : Nat) : Int)))⟩))))) (g_call pb rfl rfl rfl Tryd.func22 nm22 bd22) ?_
  refine E_val 33 rfl rfl rfl rfl (v := (.agg (arr .u8 32 (dgF 8 s)))) (g_loadAll 3 rfl rfl rfl Tryd.underlying22 rfl (by rw [arr_len]; exact sz22)) ?_
  refine E_val 34 rfl rfl rfl rfl (v := (.bool true)) (g_eqArrT (f := dgF 8 (encN ⟨(0 - R.1), (toF ((s % 2 ^ 255 : Nat) : Int)), toF 1, ((0 - R.1) * (toF ((s % 2 ^ 255 : Nat) : Int)))⟩)) (g := dgF 8 s) rfl rfl rfl Tryd.underlying22 Tryd.underlying5 Tryd.sizeOf5 (by kernel_rfl) (fun i _ => by rw [hen])) ?_
  refine E_val 35 rfl rfl rfl rfl (v := (.bool true)) (g_pick true rfl rfl rfl) ?_
  refine E_skip rfl ?_
  refine E_nil ?_
  refine ⟨?_, fun β1 w hM => ?_⟩
  · skip
    refine M_val rfl ?_
    refine M_val rfl ?_
    refine M_val rfl ?_
    refine M_val rfl ?_
    refine M_val rfl ?_
    refine M_val rfl ?_
    refine M_val rfl ?_
    refine M_val rfl ?_
    refine M_put rfl rfl (runs_store rfl rfl rfl (sets_row sz49 rfl rfl rfl)) ?_
    exact M_nil
  replace hM : Mem _ _ w [⟨b4, #[(.int .u64 c3.l0), (.int .u64 c3.l1), (.int .u64 c3.l2), (.int .u64 c3.l3), (.int .u64 c3.l4), (.int .u64 c1.l0), (.int .u64 c1.l1), (.int .u64 c1.l2), (.int .u64 c1.l3), (.int .u64 c1.l4), (.int .u64 1), (.int .u64 0), (.int .u64 0), (.int .u64 0), (.int .u64 0), (.int .u64 c4.l0), (.int .u64 c4.l1), (.int .u64 c4.l2), (.int .u64 c4.l3), (.int .u64 c4.l4)], 49, true⟩, ⟨b3, #[(.int .u64 c3.l0), (.int .u64 c3.l1), (.int .u64 c3.l2), (.int .u64 c3.l3), (.int .u64 c3.l4)], 30, true⟩, ⟨b2, #[(.int .u64 c1.l0), (.int .u64 c1.l1), (.int .u64 c1.l2), (.int .u64 c1.l3), (.int .u64 c1.l4)], 30, true⟩, ⟨b1, #[(.int .u64 c3.l0), (.int .u64 c3.l1), (.int .u64 c3.l2), (.int .u64 c3.l3), (.int .u64 c3.l4), (.int .u64 c1.l0), (.int .u64 c1.l1), (.int .u64 c1.l2), (.int .u64 c1.l3), (.int .u64 c1.l4), (.int .u64 1), (.int .u64 0), (.int .u64 0), (.int .u64 0), (.int .u64 0), (.int .u64 c4.l0), (.int .u64 c4.l1), (.int .u64 c4.l2), (.int .u64 c4.l3), (.int .u64 c4.l4)], 49, true⟩, ⟨b0, (arr .u8 32 (dgF 8 s)), 22, true⟩, ⟨bc, #[(.int .u64 c.d.l0), (.int .u64 c.d.l1), (.int .u64 c.d.l2), (.int .u64 c.d.l3), (.int .u64 c.d.l4), (.int .u64 c.e.l0), (.int .u64 c.e.l1), (.int .u64 c.e.l2), (.int .u64 c.e.l3), (.int .u64 c.e.l4), (.int .u64 c.x.l0), (.int .u64 c.x.l1), (.int .u64 c.x.l2), (.int .u64 c.x.l3), (.int .u64 c.x.l4), (.int .u64 c.y.l0), (.int .u64 c.y.l1), (.int .u64 c.y.l2), (.int .u64 c.y.l3), (.int .u64 c.y.l4), (.int .u64 c.z.l0), (.int .u64 c.z.l1), (.int .u64 c.z.l2), (.int .u64 c.z.l3), (.int .u64 c.z.l4), (.int .u64 c.t.l0), (.int .u64 c.t.l1), (.int .u64 c.t.l2), (.int .u64 c.t.l3), (.int .u64 c.t.l4)], 55, false⟩] := hM
  show wpList _ _ _ (_ :: _) (putAll _ (_)) _
  refine T_val 5 hn hM rfl rfl rfl (v := (.bool true)) (g_assign rfl rfl) ?_
  refine T_nil ?_
  refine wp_ret ?_
  refine leave (.inl rfl) hn hdf hM rfl Tryd.results29 (vs := [(.agg #[(.int .u64 c3.l0), (.int .u64 c3.l1), (.int .u64 c3.l2), (.int .u64 c3.l3), (.int .u64 c3.l4), (.int .u64 c1.l0), (.int .u64 c1.l1), (.int .u64 c1.l2), (.int .u64 c1.l3), (.int .u64 c1.l4), (.int .u64 1), (.int .u64 0), (.int .u64 0), (.int .u64 0), (.int .u64 0), (.int .u64 c4.l0), (.int .u64 c4.l1), (.int .u64 c4.l2), (.int .u64 c4.l3), (.int .u64 c4.l4)]), (.bool true)]) (.row 3 rfl rfl Tryd.underlying49 rfl sz49 (.tmp 5 rfl .nil)) ?_
  exact ⟨rfl, hM.done⟩


set_option maxHeartbeats 1000000 in
set_option maxRecDepth 100000 in
theorem readF_E {c : Cv} {fd : F} (hd : IsL c.d fd) (s : Nat) {R : F × Bool} (hR : (rootV (((toF ((s % 2 ^ 255 : Nat) : Int)) * (toF ((s % 2 ^ 255 : Nat) : Int))) - (toF 1)) ((fd * ((toF ((s % 2 ^ 255 : Nat) : Int)) * (toF ((s % 2 ^ 255 : Nat) : Int)))) + (toF 1))) = R) (hok : R.2 = true) (hsg : s.testBit 255 = false) (hen : encN ⟨R.1, (toF ((s % 2 ^ 255 : Nat) : Int)), toF 1, (R.1 * (toF ((s % 2 ^ 255 : Nat) : Int)))⟩ = s) : ∃ q : P4, ∀ (w0 : World) (bc : Nat), w0.heap[bc]? = some (.cells c.c 55 (0, 0)) → Calls Tryd.prog 29 #[.pointer (some ⟨bc, 0, none⟩), .agg (arr .u8 32 (dgF 8 s))] w0 fun e w' => e = .returned (.tuple #[q.v, .bool true]) ∧ Below w0.heap.size w0 w' := by
  obtain ⟨c1, hc1, pc1⟩ := of_E s
  obtain ⟨c2, hc2, pc2⟩ := across_E (d := c.d) (e := c.e) (x0 := c.x) (y0 := c.y) (z0 := c.z) (t0 := c.t) hd hc1
  rw [hR] at hc2 pc2
  rw [hok] at pc2
  obtain ⟨c3, hc3, pc3⟩ := flat_E hc2 hc1
  have pb := bytesP_E (p := ⟨c2, c1, ⟨1, 0, 0, 0, 0⟩, c3⟩) (fp := ⟨R.1, (toF ((s % 2 ^ 255 : Nat) : Int)), toF 1, (R.1 * (toF ((s % 2 ^ 255 : Nat) : Int)))⟩) ⟨hc2, hc1, (small_E 1 (by decide)).1, hc3⟩
  refine ⟨⟨c2, c1, ⟨1, 0, 0, 0, 0⟩, c3⟩, fun w0 bc hcv => ?_⟩
  refine enter Tryd.func29 rfl Tryd.ntmps29 (Nat.le_of_ble_eq_true rfl) fun A hn hdf => ?_
  have hM : Mem w0 [] w0 [⟨bc, #[(.int .u64 c.d.l0), (.int .u64 c.d.l1), (.int .u64 c.d.l2), (.int .u64 c.d.l3), (.int .u64 c.d.l4), (.int .u64 c.e.l0), (.int .u64 c.e.l1), (.int .u64 c.e.l2), (.int .u64 c.e.l3), (.int .u64 c.e.l4), (.int .u64 c.x.l0), (.int .u64 c.x.l1), (.int .u64 c.x.l2), (.int .u64 c.x.l3), (.int .u64 c.x.l4), (.int .u64 c.y.l0), (.int .u64 c.y.l1), (.int .u64 c.y.l2), (.int .u64 c.y.l3), (.int .u64 c.y.l4), (.int .u64 c.z.l0), (.int .u64 c.z.l1), (.int .u64 c.z.l2), (.int .u64 c.z.l3), (.int .u64 c.z.l4), (.int .u64 c.t.l0), (.int .u64 c.t.l1), (.int .u64 c.t.l2), (.int .u64 c.t.l3), (.int .u64 c.t.l4)], 55, false⟩] := Mem.read1 w0 hcv
  replace hM := hM
  refine wp_seq ?_
  refine wp_region_lit ?_
  refine T_box 3 hn hM rfl rfl rfl rfl rfl (arr .u8 32 (dgF 8 s)) rfl (fun b0 w hM => ?_)
  refine T_alloc 4 hn hM rfl rfl rfl rfl Tryd.zeroValue49 #[(.int .u64 0), (.int .u64 0), (.int .u64 0), (.int .u64 0), (.int .u64 0), (.int .u64 0), (.int .u64 0), (.int .u64 0), (.int .u64 0), (.int .u64 0), (.int .u64 0), (.int .u64 0), (.int .u64 0), (.int .u64 0), (.int .u64 0), (.int .u64 0), (.int .u64 0), (.int .u64 0), (.int .u64 0), (.int .u64 0)] rfl (fun b1 w hM => ?_)
  refine T_val 5 hn hM rfl rfl rfl (v := (.bool false)) (g_assign rfl rfl) ?_
  refine T_nil ?_
  refine wp_seq ?_
  refine wp_region_lit ?_
  refine T_val 10 hn hM rfl rfl rfl (v := (.slice (some ⟨b0, 0, none⟩) 32 32)) (g_sliceArr rfl rfl Tryd.underlying22 Tryd.sizeOf5) ?_
  refine T_val 11 hn hM rfl rfl rfl (v := (.string (strOf 32 (dgF 8 s)))) (g_bytesStr 1 rfl rfl rfl (by omega) Tryd.underlying25 Tryd.underlying5 Tryd.underlying9) ?_
  refine T_call 12 hn hM rfl rfl rfl (v := c1.v) (g_call pc1 rfl rfl rfl Tryd.func7 nm7 bd7) (fun w hM => ?_)
  refine T_alloc 6 hn hM rfl rfl rfl rfl Tryd.zeroValue30 #[(.int .u64 0), (.int .u64 0), (.int .u64 0), (.int .u64 0), (.int .u64 0)] rfl (fun b2 w hM => ?_)
  refine T_store 0 hn hM rfl rfl rfl rfl rfl rfl rfl (c' := #[(.int .u64 c1.l0), (.int .u64 c1.l1), (.int .u64 c1.l2), (.int .u64 c1.l3), (.int .u64 c1.l4)]) (sets_row sz30 rfl rfl rfl) (fun w hM => ?_)
  replace hM : Mem _ _ w [⟨b2, #[(.int .u64 c1.l0), (.int .u64 c1.l1), (.int .u64 c1.l2), (.int .u64 c1.l3), (.int .u64 c1.l4)], 30, true⟩, ⟨b1, #[(.int .u64 0), (.int .u64 0), (.int .u64 0), (.int .u64 0), (.int .u64 0), (.int .u64 0), (.int .u64 0), (.int .u64 0), (.int .u64 0), (.int .u64 0), (.int .u64 0), (.int .u64 0), (.int .u64 0), (.int .u64 0), (.int .u64 0), (.int .u64 0), (.int .u64 0), (.int .u64 0), (.int .u64 0), (.int .u64 0)], 49, true⟩, ⟨b0, (arr .u8 32 (dgF 8 s)), 22, true⟩, ⟨bc, #[(.int .u64 c.d.l0), (.int .u64 c.d.l1), (.int .u64 c.d.l2), (.int .u64 c.d.l3), (.int .u64 c.d.l4), (.int .u64 c.e.l0), (.int .u64 c.e.l1), (.int .u64 c.e.l2), (.int .u64 c.e.l3), (.int .u64 c.e.l4), (.int .u64 c.x.l0), (.int .u64 c.x.l1), (.int .u64 c.x.l2), (.int .u64 c.x.l3), (.int .u64 c.x.l4), (.int .u64 c.y.l0), (.int .u64 c.y.l1), (.int .u64 c.y.l2), (.int .u64 c.y.l3), (.int .u64 c.y.l4), (.int .u64 c.z.l0), (.int .u64 c.z.l1), (.int .u64 c.z.l2), (.int .u64 c.z.l3), (.int .u64 c.z.l4), (.int .u64 c.t.l0), (.int .u64 c.t.l1), (.int .u64 c.t.l2), (.int .u64 c.t.l3), (.int .u64 c.t.l4)], 55, false⟩] := hM
  refine T_nil ?_
  refine wp_seq ?_
  refine wp_region_lit ?_
  refine T_val 14 hn hM rfl rfl rfl (v := (.pointer (some ⟨bc, 0, none⟩))) (g_move rfl rfl) ?_
  refine T_val 15 hn hM rfl rfl rfl (v := (.agg #[(.int .u64 c1.l0), (.int .u64 c1.l1), (.int .u64 c1.l2), (.int .u64 c1.l3), (.int .u64 c1.l4)])) (g_loadRow 0 [(.int .u64 c1.l0), (.int .u64 c1.l1), (.int .u64 c1.l2), (.int .u64 c1.l3), (.int .u64 c1.l4)] rfl rfl rfl Tryd.underlying30 rfl sz30 rfl) ?_
  refine T_call 16 hn hM rfl rfl rfl (v := (.tuple #[c2.v, (.bool true)])) (g_callM (fun w hM => pc2 w _ (hM.get 3 rfl)) rfl rfl rfl Tryd.func39 nm39 bd39) (fun w hM => ?_)
  refine T_val 13 hn hM rfl rfl rfl (v := (.tuple #[c2.v, (.bool true)])) (g_move rfl rfl) ?_
  refine T_val 17 hn hM rfl rfl rfl (v := c2.v) (g_extract rfl rfl rfl) ?_
  refine T_val 18 hn hM rfl rfl rfl (v := (.bool true)) (g_extract rfl rfl rfl) ?_
  refine T_alloc 7 hn hM rfl rfl rfl rfl Tryd.zeroValue30 #[(.int .u64 0), (.int .u64 0), (.int .u64 0), (.int .u64 0), (.int .u64 0)] rfl (fun b3 w hM => ?_)
  refine T_store 0 hn hM rfl rfl rfl rfl rfl rfl rfl (c' := #[(.int .u64 c2.l0), (.int .u64 c2.l1), (.int .u64 c2.l2), (.int .u64 c2.l3), (.int .u64 c2.l4)]) (sets_row sz30 rfl rfl rfl) (fun w hM => ?_)
  replace hM : Mem _ _ w [⟨b3, #[(.int .u64 c2.l0), (.int .u64 c2.l1), (.int .u64 c2.l2), (.int .u64 c2.l3), (.int .u64 c2.l4)], 30, true⟩, ⟨b2, #[(.int .u64 c1.l0), (.int .u64 c1.l1), (.int .u64 c1.l2), (.int .u64 c1.l3), (.int .u64 c1.l4)], 30, true⟩, ⟨b1, #[(.int .u64 0), (.int .u64 0), (.int .u64 0), (.int .u64 0), (.int .u64 0), (.int .u64 0), (.int .u64 0), (.int .u64 0), (.int .u64 0), (.int .u64 0), (.int .u64 0), (.int .u64 0), (.int .u64 0), (.int .u64 0), (.int .u64 0), (.int .u64 0), (.int .u64 0), (.int .u64 0), (.int .u64 0), (.int .u64 0)], 49, true⟩, ⟨b0, (arr .u8 32 (dgF 8 s)), 22, true⟩, ⟨bc, #[(.int .u64 c.d.l0), (.int .u64 c.d.l1), (.int .u64 c.d.l2), (.int .u64 c.d.l3), (.int .u64 c.d.l4), (.int .u64 c.e.l0), (.int .u64 c.e.l1), (.int .u64 c.e.l2), (.int .u64 c.e.l3), (.int .u64 c.e.l4), (.int .u64 c.x.l0), (.int .u64 c.x.l1), (.int .u64 c.x.l2), (.int .u64 c.x.l3), (.int .u64 c.x.l4), (.int .u64 c.y.l0), (.int .u64 c.y.l1), (.int .u64 c.y.l2), (.int .u64 c.y.l3), (.int .u64 c.y.l4), (.int .u64 c.z.l0), (.int .u64 c.z.l1), (.int .u64 c.z.l2), (.int .u64 c.z.l3), (.int .u64 c.z.l4), (.int .u64 c.t.l0), (.int .u64 c.t.l1), (.int .u64 c.t.l2), (.int .u64 c.t.l3), (.int .u64 c.t.l4)], 55, false⟩] := hM
  refine T_val 8 hn hM rfl rfl rfl (v := (.bool true)) (g_assign rfl rfl) ?_
  refine T_nil ?_
  refine wp_seq ?_
  refine wp_seq ?_
  refine wp_region_lit ?_
  refine T_val 19 hn hM rfl rfl rfl (v := (.pointer (some ⟨b0, 31, none⟩))) (g_indexAddr 31 rfl rfl rfl Tryd.underlying22 Tryd.sizeOf5 (by decide) rfl) ?_
  refine T_val 20 hn hM rfl rfl rfl (v := (.int .u8 ((dg 8 s 31 : Nat) : Int))) (g_loadOne 3 rfl rfl rfl Tryd.underlying5 rfl (arr_get (by omega))) ?_
  refine T_val 21 hn hM rfl rfl rfl (v := (.int .u8 ((dg 8 s 31 &&& 128 : Nat) : Int))) (g_int rfl rfl rfl rfl (and_nat _ 128 (dg_lt 8 _ _) (by decide))) ?_
  refine T_val 22 hn hM rfl rfl rfl (v := (.bool false)) (g_int rfl rfl rfl rfl (by rw [sign_bit, hsg])) ?_
  refine T_nil ?_
  refine C_condF hn rfl rfl ?_
  refine wp_skip ?_
  refine x_next ?_
  refine wp_seq ?_
  refine wp_region_lit ?_
  refine T_val 25 hn hM rfl rfl rfl (v := (.agg #[(.int .u64 c2.l0), (.int .u64 c2.l1), (.int .u64 c2.l2), (.int .u64 c2.l3), (.int .u64 c2.l4)])) (g_loadRow 0 [(.int .u64 c2.l0), (.int .u64 c2.l1), (.int .u64 c2.l2), (.int .u64 c2.l3), (.int .u64 c2.l4)] rfl rfl rfl Tryd.underlying30 rfl sz30 rfl) ?_
  refine T_val 26 hn hM rfl rfl rfl (v := (.agg #[(.int .u64 c1.l0), (.int .u64 c1.l1), (.int .u64 c1.l2), (.int .u64 c1.l3), (.int .u64 c1.l4)])) (g_loadRow 1 [(.int .u64 c1.l0), (.int .u64 c1.l1), (.int .u64 c1.l2), (.int .u64 c1.l3), (.int .u64 c1.l4)] rfl rfl rfl Tryd.underlying30 rfl sz30 rfl) ?_
  refine T_call 27 hn hM rfl rfl rfl (v := (.agg #[(.int .u64 c2.l0), (.int .u64 c2.l1), (.int .u64 c2.l2), (.int .u64 c2.l3), (.int .u64 c2.l4), (.int .u64 c1.l0), (.int .u64 c1.l1), (.int .u64 c1.l2), (.int .u64 c1.l3), (.int .u64 c1.l4), (.int .u64 1), (.int .u64 0), (.int .u64 0), (.int .u64 0), (.int .u64 0), (.int .u64 c3.l0), (.int .u64 c3.l1), (.int .u64 c3.l2), (.int .u64 c3.l3), (.int .u64 c3.l4)])) (g_call pc3 rfl rfl rfl Tryd.func40 nm40 bd40) (fun w hM => ?_)
  refine T_alloc 9 hn hM rfl rfl rfl rfl Tryd.zeroValue49 #[(.int .u64 0), (.int .u64 0), (.int .u64 0), (.int .u64 0), (.int .u64 0), (.int .u64 0), (.int .u64 0), (.int .u64 0), (.int .u64 0), (.int .u64 0), (.int .u64 0), (.int .u64 0), (.int .u64 0), (.int .u64 0), (.int .u64 0), (.int .u64 0), (.int .u64 0), (.int .u64 0), (.int .u64 0), (.int .u64 0)] rfl (fun b4 w hM => ?_)
  refine T_store 0 hn hM rfl rfl rfl rfl rfl rfl rfl (c' := #[(.int .u64 c2.l0), (.int .u64 c2.l1), (.int .u64 c2.l2), (.int .u64 c2.l3), (.int .u64 c2.l4), (.int .u64 c1.l0), (.int .u64 c1.l1), (.int .u64 c1.l2), (.int .u64 c1.l3), (.int .u64 c1.l4), (.int .u64 1), (.int .u64 0), (.int .u64 0), (.int .u64 0), (.int .u64 0), (.int .u64 c3.l0), (.int .u64 c3.l1), (.int .u64 c3.l2), (.int .u64 c3.l3), (.int .u64 c3.l4)]) (sets_row sz49 rfl rfl rfl) (fun w hM => ?_)
  replace hM : Mem _ _ w [⟨b4, #[(.int .u64 c2.l0), (.int .u64 c2.l1), (.int .u64 c2.l2), (.int .u64 c2.l3), (.int .u64 c2.l4), (.int .u64 c1.l0), (.int .u64 c1.l1), (.int .u64 c1.l2), (.int .u64 c1.l3), (.int .u64 c1.l4), (.int .u64 1), (.int .u64 0), (.int .u64 0), (.int .u64 0), (.int .u64 0), (.int .u64 c3.l0), (.int .u64 c3.l1), (.int .u64 c3.l2), (.int .u64 c3.l3), (.int .u64 c3.l4)], 49, true⟩, ⟨b3, #[(.int .u64 c2.l0), (.int .u64 c2.l1), (.int .u64 c2.l2), (.int .u64 c2.l3), (.int .u64 c2.l4)], 30, true⟩, ⟨b2, #[(.int .u64 c1.l0), (.int .u64 c1.l1), (.int .u64 c1.l2), (.int .u64 c1.l3), (.int .u64 c1.l4)], 30, true⟩, ⟨b1, #[(.int .u64 0), (.int .u64 0), (.int .u64 0), (.int .u64 0), (.int .u64 0), (.int .u64 0), (.int .u64 0), (.int .u64 0), (.int .u64 0), (.int .u64 0), (.int .u64 0), (.int .u64 0), (.int .u64 0), (.int .u64 0), (.int .u64 0), (.int .u64 0), (.int .u64 0), (.int .u64 0), (.int .u64 0), (.int .u64 0)], 49, true⟩, ⟨b0, (arr .u8 32 (dgF 8 s)), 22, true⟩, ⟨bc, #[(.int .u64 c.d.l0), (.int .u64 c.d.l1), (.int .u64 c.d.l2), (.int .u64 c.d.l3), (.int .u64 c.d.l4), (.int .u64 c.e.l0), (.int .u64 c.e.l1), (.int .u64 c.e.l2), (.int .u64 c.e.l3), (.int .u64 c.e.l4), (.int .u64 c.x.l0), (.int .u64 c.x.l1), (.int .u64 c.x.l2), (.int .u64 c.x.l3), (.int .u64 c.x.l4), (.int .u64 c.y.l0), (.int .u64 c.y.l1), (.int .u64 c.y.l2), (.int .u64 c.y.l3), (.int .u64 c.y.l4), (.int .u64 c.z.l0), (.int .u64 c.z.l1), (.int .u64 c.z.l2), (.int .u64 c.z.l3), (.int .u64 c.z.l4), (.int .u64 c.t.l0), (.int .u64 c.t.l1), (.int .u64 c.t.l2), (.int .u64 c.t.l3), (.int .u64 c.t.l4)], 55, false⟩] := hM
  refine T_nil ?_
  refine wp_seq ?_
  refine R_put [.val, .val, .val, .val, .val, .val, .val, .val, .put] 9 [] [] 8 3 (x0 := ⟨b1, #[(.int .u64 0), (.int .u64 0), (.int .u64 0), (.int .u64 0), (.int .u64 0), (.int .u64 0), (.int .u64 0), (.int .u64 0), (.int .u64 0), (.int .u64 0), (.int .u64 0), (.int .u64 0), (.int .u64 0), (.int .u64 0), (.int .u64 0), (.int .u64 0), (.int .u64 0), (.int .u64 0), (.int .u64 0), (.int .u64 0)], 49, true⟩) #[(.int .u64 c2.l0), (.int .u64 c2.l1), (.int .u64 c2.l2), (.int .u64 c2.l3), (.int .u64 c2.l4), (.int .u64 c1.l0), (.int .u64 c1.l1), (.int .u64 c1.l2), (.int .u64 c1.l3), (.int .u64 c1.l4), (.int .u64 1), (.int .u64 0), (.int .u64 0), (.int .u64 0), (.int .u64 0), (.int .u64 c3.l0), (.int .u64 c3.l1), (.int .u64 c3.l2), (.int .u64 c3.l3), (.int .u64 c3.l4)] hn hM rfl (by kernel_rfl) (by kernel_rfl) rfl rfl rfl (by decide) rfl rfl rfl ?_
  refine E_val 28 rfl rfl rfl rfl (v := (.agg #[(.int .u64 c2.l0), (.int .u64 c2.l1), (.int .u64 c2.l2), (.int .u64 c2.l3), (.int .u64 c2.l4), (.int .u64 c1.l0), (.int .u64 c1.l1), (.int .u64 c1.l2), (.int .u64 c1.l3), (.int .u64 c1.l4), (.int .u64 1), (.int .u64 0), (.int .u64 0), (.int .u64 0), (.int .u64 0), (.int .u64 c3.l0), (.int .u64 c3.l1), (.int .u64 c3.l2), (.int .u64 c3.l3), (.int .u64 c3.l4)])) (g_loadRow 0 [(.int .u64 c2.l0), (.int .u64 c2.l1), (.int .u64 c2.l2), (.int .u64 c2.l3), (.int .u64 c2.l4), (.int .u64 c1.l0), (.int .u64 c1.l1), (.int .u64 c1.l2), (.int .u64 c1.l3), (.int .u64 c1.l4), (.int .u64 1), (.int .u64 0), (.int .u64 0), (.int .u64 0), (.int .u64 0), (.int .u64 c3.l0), (.int .u64 c3.l1), (.int .u64 c3.l2), (.int .u64 c3.l3), (.int .u64 c3.l4)] rfl rfl rfl Tryd.underlying49 rfl sz49 rfl) ?_
  refine E_val 29 rfl rfl rfl rfl (v := (.bool true)) (g_move rfl rfl) ?_
  refine E_val 30 rfl rfl rfl rfl (v := (.bool true)) (g_move rfl rfl) ?_
  refine E_val 31 rfl rfl rfl rfl (v := (.agg #[(.int .u64 c2.l0), (.int .u64 c2.l1), (.int .u64 c2.l2), (.int .u64 c2.l3), (.int .u64 c2.l4), (.int .u64 c1.l0), (.int .u64 c1.l1), (.int .u64 c1.l2), (.int .u64 c1.l3), (.int .u64 c1.l4), (.int .u64 1), (.int .u64 0), (.int .u64 0), (.int .u64 0), (.int .u64 0), (.int .u64 c3.l0), (.int .u64 c3.l1), (.int .u64 c3.l2), (.int .u64 c3.l3), (.int .u64 c3.l4)])) (g_loadRow 0 [(.int .u64 c2.l0), (.int .u64 c2.l1), (.int .u64 c2.l2), (.int .u64 c2.l3), (.int .u64 c2.l4), (.int .u64 c1.l0), (.int .u64 c1.l1), (.int .u64 c1.l2), (.int .u64 c1.l3), (.int .u64 c1.l4), (.int .u64 1), (.int .u64 0), (.int .u64 0), (.int .u64 0), (.int .u64 0), (.int .u64 c3.l0), (.int .u64 c3.l1), (.int .u64 c3.l2), (.int .u64 c3.l3), (.int .u64 c3.l4)] rfl rfl rfl Tryd.underlying49 rfl sz49 rfl) ?_
  refine E_call 32 rfl rfl rfl rfl (v := (.agg (arr .u8 32 (dgF 8 (encN ⟨R.1, (toF ((s % 2 ^ 255 : Nat) : Int)), toF 1, (R.1 * (toF ((s % 2 ^ 255 : Nat) : Int)))⟩))))) (g_call pb rfl rfl rfl Tryd.func22 nm22 bd22) ?_
  refine E_val 33 rfl rfl rfl rfl (v := (.agg (arr .u8 32 (dgF 8 s)))) (g_loadAll 3 rfl rfl rfl Tryd.underlying22 rfl (by rw [arr_len]; exact sz22)) ?_
  refine E_val 34 rfl rfl rfl rfl (v := (.bool true)) (g_eqArrT (f := dgF 8 (encN ⟨R.1, (toF ((s % 2 ^ 255 : Nat) : Int)), toF 1, (R.1 * (toF ((s % 2 ^ 255 : Nat) : Int)))⟩)) (g := dgF 8 s) rfl rfl rfl Tryd.underlying22 Tryd.underlying5 Tryd.sizeOf5 (by kernel_rfl) (fun i _ => by rw [hen])) ?_
  refine E_val 35 rfl rfl rfl rfl (v := (.bool true)) (g_pick true rfl rfl rfl) ?_
  refine E_skip rfl ?_
  refine E_nil ?_
  refine ⟨?_, fun β1 w hM => ?_⟩
  · skip
    refine M_val rfl ?_
    refine M_val rfl ?_
    refine M_val rfl ?_
    refine M_val rfl ?_
    refine M_val rfl ?_
    refine M_val rfl ?_
    refine M_val rfl ?_
    refine M_val rfl ?_
    refine M_put rfl rfl (runs_store rfl rfl rfl (sets_row sz49 rfl rfl rfl)) ?_
    exact M_nil
  replace hM : Mem _ _ w [⟨b4, #[(.int .u64 c2.l0), (.int .u64 c2.l1), (.int .u64 c2.l2), (.int .u64 c2.l3), (.int .u64 c2.l4), (.int .u64 c1.l0), (.int .u64 c1.l1), (.int .u64 c1.l2), (.int .u64 c1.l3), (.int .u64 c1.l4), (.int .u64 1), (.int .u64 0), (.int .u64 0), (.int .u64 0), (.int .u64 0), (.int .u64 c3.l0), (.int .u64 c3.l1), (.int .u64 c3.l2), (.int .u64 c3.l3), (.int .u64 c3.l4)], 49, true⟩, ⟨b3, #[(.int .u64 c2.l0), (.int .u64 c2.l1), (.int .u64 c2.l2), (.int .u64 c2.l3), (.int .u64 c2.l4)], 30, true⟩, ⟨b2, #[(.int .u64 c1.l0), (.int .u64 c1.l1), (.int .u64 c1.l2), (.int .u64 c1.l3), (.int .u64 c1.l4)], 30, true⟩, ⟨b1, #[(.int .u64 c2.l0), (.int .u64 c2.l1), (.int .u64 c2.l2), (.int .u64 c2.l3), (.int .u64 c2.l4), (.int .u64 c1.l0), (.int .u64 c1.l1), (.int .u64 c1.l2), (.int .u64 c1.l3), (.int .u64 c1.l4), (.int .u64 1), (.int .u64 0), (.int .u64 0), (.int .u64 0), (.int .u64 0), (.int .u64 c3.l0), (.int .u64 c3.l1), (.int .u64 c3.l2), (.int .u64 c3.l3), (.int .u64 c3.l4)], 49, true⟩, ⟨b0, (arr .u8 32 (dgF 8 s)), 22, true⟩, ⟨bc, #[(.int .u64 c.d.l0), (.int .u64 c.d.l1), (.int .u64 c.d.l2), (.int .u64 c.d.l3), (.int .u64 c.d.l4), (.int .u64 c.e.l0), (.int .u64 c.e.l1), (.int .u64 c.e.l2), (.int .u64 c.e.l3), (.int .u64 c.e.l4), (.int .u64 c.x.l0), (.int .u64 c.x.l1), (.int .u64 c.x.l2), (.int .u64 c.x.l3), (.int .u64 c.x.l4), (.int .u64 c.y.l0), (.int .u64 c.y.l1), (.int .u64 c.y.l2), (.int .u64 c.y.l3), (.int .u64 c.y.l4), (.int .u64 c.z.l0), (.int .u64 c.z.l1), (.int .u64 c.z.l2), (.int .u64 c.z.l3), (.int .u64 c.z.l4), (.int .u64 c.t.l0), (.int .u64 c.t.l1), (.int .u64 c.t.l2), (.int .u64 c.t.l3), (.int .u64 c.t.l4)], 55, false⟩] := hM
  show wpList _ _ _ (_ :: _) (putAll _ (_)) _
  refine T_val 5 hn hM rfl rfl rfl (v := (.bool true)) (g_assign rfl rfl) ?_
  refine T_nil ?_
  refine wp_ret ?_
  refine leave (.inl rfl) hn hdf hM rfl Tryd.results29 (vs := [(.agg #[(.int .u64 c2.l0), (.int .u64 c2.l1), (.int .u64 c2.l2), (.int .u64 c2.l3), (.int .u64 c2.l4), (.int .u64 c1.l0), (.int .u64 c1.l1), (.int .u64 c1.l2), (.int .u64 c1.l3), (.int .u64 c1.l4), (.int .u64 1), (.int .u64 0), (.int .u64 0), (.int .u64 0), (.int .u64 0), (.int .u64 c3.l0), (.int .u64 c3.l1), (.int .u64 c3.l2), (.int .u64 c3.l3), (.int .u64 c3.l4)]), (.bool true)]) (.row 3 rfl rfl Tryd.underlying49 rfl sz49 (.tmp 5 rfl .nil)) ?_
  exact ⟨rfl, hM.done⟩

end Go.Proofs.YtbonnnakebfniaaDoor

