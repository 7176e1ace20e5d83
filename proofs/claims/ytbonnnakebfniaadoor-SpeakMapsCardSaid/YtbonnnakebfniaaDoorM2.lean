/- The two primes: of the field, and of the base point's order; each by Pratt's test, which the kernel reckons. -/
import Derived.Test.YtbonnnakebfniaaDoorM1
namespace Num
theorem small_primes : ∀ q ∈ [2, 3, 5, 7, 11, 13, 17, 19, 23, 31, 41, 43, 47, 59, 67, 73, 79, 83, 97, 103, 107, 113, 127, 131, 173, 223, 239, 269, 307, 353, 419, 479, 487, 991, 1361, 1723, 2437, 2551, 2851, 2939, 3727, 3797], IsPrime q := by
  have h : ([2, 3, 5, 7, 11, 13, 17, 19, 23, 31, 41, 43, 47, 59, 67, 73, 79, 83, 97, 103, 107, 113, 127, 131, 173, 223, 239, 269, 307, 353, 419, 479, 487, 991, 1361, 1723, 2437, 2551, 2851, 2939, 3727, 3797] : List Nat).all smallOk = true := by decide +kernel
  intro q hq
  exact smallOk_prime (List.all_eq_true.1 h q hq)
theorem prime_4153 : IsPrime 4153 := prattOk_prime (a := 5) (fs := [2, 2, 2, 3, 173]) (by
  intro q hq
  simp only [List.mem_cons, List.not_mem_nil, or_false] at hq
  rcases hq with rfl | rfl | rfl | rfl | rfl
  all_goals first | exact small_primes _ (by decide) ) (by decide +kernel)
theorem prime_5879 : IsPrime 5879 := prattOk_prime (a := 11) (fs := [2, 2939]) (by
  intro q hq
  simp only [List.mem_cons, List.not_mem_nil, or_false] at hq
  rcases hq with rfl | rfl
  all_goals first | exact small_primes _ (by decide) ) (by decide +kernel)
theorem prime_9463 : IsPrime 9463 := prattOk_prime (a := 3) (fs := [2, 3, 19, 83]) (by
  intro q hq
  simp only [List.mem_cons, List.not_mem_nil, or_false] at hq
  rcases hq with rfl | rfl | rfl | rfl
  all_goals first | exact small_primes _ (by decide) ) (by decide +kernel)
theorem prime_17231 : IsPrime 17231 := prattOk_prime (a := 13) (fs := [2, 5, 1723]) (by
  intro q hq
  simp only [List.mem_cons, List.not_mem_nil, or_false] at hq
  rcases hq with rfl | rfl | rfl
  all_goals first | exact small_primes _ (by decide) ) (by decide +kernel)
theorem prime_22111 : IsPrime 22111 := prattOk_prime (a := 6) (fs := [2, 3, 5, 11, 67]) (by
  intro q hq
  simp only [List.mem_cons, List.not_mem_nil, or_false] at hq
  rcases hq with rfl | rfl | rfl | rfl | rfl
  all_goals first | exact small_primes _ (by decide) ) (by decide +kernel)
theorem prime_30703 : IsPrime 30703 := prattOk_prime (a := 3) (fs := [2, 3, 7, 17, 43]) (by
  intro q hq
  simp only [List.mem_cons, List.not_mem_nil, or_false] at hq
  rcases hq with rfl | rfl | rfl | rfl | rfl
  all_goals first | exact small_primes _ (by decide) ) (by decide +kernel)
theorem prime_32573 : IsPrime 32573 := prattOk_prime (a := 2) (fs := [2, 2, 17, 479]) (by
  intro q hq
  simp only [List.mem_cons, List.not_mem_nil, or_false] at hq
  rcases hq with rfl | rfl | rfl | rfl
  all_goals first | exact small_primes _ (by decide) ) (by decide +kernel)
theorem prime_34123 : IsPrime 34123 := prattOk_prime (a := 2) (fs := [2, 3, 11, 11, 47]) (by
  intro q hq
  simp only [List.mem_cons, List.not_mem_nil, or_false] at hq
  rcases hq with rfl | rfl | rfl | rfl | rfl
  all_goals first | exact small_primes _ (by decide) ) (by decide +kernel)
theorem prime_37853 : IsPrime 37853 := prattOk_prime (a := 2) (fs := [2, 2, 9463]) (by
  intro q hq
  simp only [List.mem_cons, List.not_mem_nil, or_false] at hq
  rcases hq with rfl | rfl | rfl
  all_goals first | exact small_primes _ (by decide)  | exact prime_9463) (by decide +kernel)
theorem prime_41081 : IsPrime 41081 := prattOk_prime (a := 3) (fs := [2, 2, 2, 5, 13, 79]) (by
  intro q hq
  simp only [List.mem_cons, List.not_mem_nil, or_false] at hq
  rcases hq with rfl | rfl | rfl | rfl | rfl | rfl
  all_goals first | exact small_primes _ (by decide) ) (by decide +kernel)
theorem prime_57467 : IsPrime 57467 := prattOk_prime (a := 2) (fs := [2, 59, 487]) (by
  intro q hq
  simp only [List.mem_cons, List.not_mem_nil, or_false] at hq
  rcases hq with rfl | rfl | rfl
  all_goals first | exact small_primes _ (by decide) ) (by decide +kernel)
theorem prime_65147 : IsPrime 65147 := prattOk_prime (a := 2) (fs := [2, 32573]) (by
  intro q hq
  simp only [List.mem_cons, List.not_mem_nil, or_false] at hq
  rcases hq with rfl | rfl
  all_goals first | exact small_primes _ (by decide)  | exact prime_32573) (by decide +kernel)
theorem prime_75707 : IsPrime 75707 := prattOk_prime (a := 2) (fs := [2, 37853]) (by
  intro q hq
  simp only [List.mem_cons, List.not_mem_nil, or_false] at hq
  rcases hq with rfl | rfl
  all_goals first | exact small_primes _ (by decide)  | exact prime_37853) (by decide +kernel)
theorem prime_82163 : IsPrime 82163 := prattOk_prime (a := 2) (fs := [2, 41081]) (by
  intro q hq
  simp only [List.mem_cons, List.not_mem_nil, or_false] at hq
  rcases hq with rfl | rfl
  all_goals first | exact small_primes _ (by decide)  | exact prime_41081) (by decide +kernel)
theorem prime_132049 : IsPrime 132049 := prattOk_prime (a := 26) (fs := [2, 2, 2, 2, 3, 3, 7, 131]) (by
  intro q hq
  simp only [List.mem_cons, List.not_mem_nil, or_false] at hq
  rcases hq with rfl | rfl | rfl | rfl | rfl | rfl | rfl | rfl
  all_goals first | exact small_primes _ (by decide) ) (by decide +kernel)
theorem prime_132667 : IsPrime 132667 := prattOk_prime (a := 5) (fs := [2, 3, 22111]) (by
  intro q hq
  simp only [List.mem_cons, List.not_mem_nil, or_false] at hq
  rcases hq with rfl | rfl | rfl
  all_goals first | exact small_primes _ (by decide)  | exact prime_22111) (by decide +kernel)
theorem prime_137849 : IsPrime 137849 := prattOk_prime (a := 3) (fs := [2, 2, 2, 17231]) (by
  intro q hq
  simp only [List.mem_cons, List.not_mem_nil, or_false] at hq
  rcases hq with rfl | rfl | rfl | rfl
  all_goals first | exact small_primes _ (by decide)  | exact prime_17231) (by decide +kernel)
theorem prime_409477 : IsPrime 409477 := prattOk_prime (a := 2) (fs := [2, 2, 3, 34123]) (by
  intro q hq
  simp only [List.mem_cons, List.not_mem_nil, or_false] at hq
  rcases hq with rfl | rfl | rfl | rfl
  all_goals first | exact small_primes _ (by decide)  | exact prime_34123) (by decide +kernel)
theorem prime_430751 : IsPrime 430751 := prattOk_prime (a := 17) (fs := [2, 5, 5, 5, 1723]) (by
  intro q hq
  simp only [List.mem_cons, List.not_mem_nil, or_false] at hq
  rcases hq with rfl | rfl | rfl | rfl | rfl
  all_goals first | exact small_primes _ (by decide) ) (by decide +kernel)
theorem prime_531581 : IsPrime 531581 := prattOk_prime (a := 2) (fs := [2, 2, 5, 7, 3797]) (by
  intro q hq
  simp only [List.mem_cons, List.not_mem_nil, or_false] at hq
  rcases hq with rfl | rfl | rfl | rfl | rfl
  all_goals first | exact small_primes _ (by decide) ) (by decide +kernel)
theorem prime_569003 : IsPrime 569003 := prattOk_prime (a := 2) (fs := [2, 7, 97, 419]) (by
  intro q hq
  simp only [List.mem_cons, List.not_mem_nil, or_false] at hq
  rcases hq with rfl | rfl | rfl | rfl
  all_goals first | exact small_primes _ (by decide) ) (by decide +kernel)
theorem prime_1224481 : IsPrime 1224481 := prattOk_prime (a := 13) (fs := [2, 2, 2, 2, 2, 3, 5, 2551]) (by
  intro q hq
  simp only [List.mem_cons, List.not_mem_nil, or_false] at hq
  rcases hq with rfl | rfl | rfl | rfl | rfl | rfl | rfl | rfl
  all_goals first | exact small_primes _ (by decide) ) (by decide +kernel)
theorem prime_1923133 : IsPrime 1923133 := prattOk_prime (a := 2) (fs := [2, 2, 3, 43, 3727]) (by
  intro q hq
  simp only [List.mem_cons, List.not_mem_nil, or_false] at hq
  rcases hq with rfl | rfl | rfl | rfl | rfl
  all_goals first | exact small_primes _ (by decide) ) (by decide +kernel)
theorem prime_8574133 : IsPrime 8574133 := prattOk_prime (a := 2) (fs := [2, 2, 3, 7, 103, 991]) (by
  intro q hq
  simp only [List.mem_cons, List.not_mem_nil, or_false] at hq
  rcases hq with rfl | rfl | rfl | rfl | rfl | rfl
  all_goals first | exact small_primes _ (by decide) ) (by decide +kernel)
theorem prime_14741173 : IsPrime 14741173 := prattOk_prime (a := 2) (fs := [2, 2, 3, 3, 409477]) (by
  intro q hq
  simp only [List.mem_cons, List.not_mem_nil, or_false] at hq
  rcases hq with rfl | rfl | rfl | rfl | rfl
  all_goals first | exact small_primes _ (by decide)  | exact prime_409477) (by decide +kernel)
theorem prime_58964693 : IsPrime 58964693 := prattOk_prime (a := 2) (fs := [2, 2, 14741173]) (by
  intro q hq
  simp only [List.mem_cons, List.not_mem_nil, or_false] at hq
  rcases hq with rfl | rfl | rfl
  all_goals first | exact small_primes _ (by decide)  | exact prime_14741173) (by decide +kernel)
theorem prime_292386187 : IsPrime 292386187 := prattOk_prime (a := 2) (fs := [2, 3, 3, 3, 3, 307, 5879]) (by
  intro q hq
  simp only [List.mem_cons, List.not_mem_nil, or_false] at hq
  rcases hq with rfl | rfl | rfl | rfl | rfl | rfl | rfl
  all_goals first | exact small_primes _ (by decide)  | exact prime_5879) (by decide +kernel)
theorem prime_2773320623 : IsPrime 2773320623 := prattOk_prime (a := 5) (fs := [2, 2437, 569003]) (by
  intro q hq
  simp only [List.mem_cons, List.not_mem_nil, or_false] at hq
  rcases hq with rfl | rfl | rfl
  all_goals first | exact small_primes _ (by decide)  | exact prime_569003) (by decide +kernel)
theorem prime_72106336199 : IsPrime 72106336199 := prattOk_prime (a := 7) (fs := [2, 13, 2773320623]) (by
  intro q hq
  simp only [List.mem_cons, List.not_mem_nil, or_false] at hq
  rcases hq with rfl | rfl | rfl
  all_goals first | exact small_primes _ (by decide)  | exact prime_2773320623) (by decide +kernel)
theorem prime_213441916511 : IsPrime 213441916511 := prattOk_prime (a := 13) (fs := [2, 5, 73, 292386187]) (by
  intro q hq
  simp only [List.mem_cons, List.not_mem_nil, or_false] at hq
  rcases hq with rfl | rfl | rfl | rfl
  all_goals first | exact small_primes _ (by decide)  | exact prime_292386187) (by decide +kernel)
theorem prime_125755973217_16 : IsPrime 1257559732178653 := prattOk_prime (a := 2) (fs := [2, 2, 3, 7, 23, 531581, 1224481]) (by
  intro q hq
  simp only [List.mem_cons, List.not_mem_nil, or_false] at hq
  rcases hq with rfl | rfl | rfl | rfl | rfl | rfl | rfl
  all_goals first | exact small_primes _ (by decide)  | exact prime_531581 | exact prime_1224481) (by decide +kernel)
theorem prime_191951956938_16 : IsPrime 1919519569386763 := prattOk_prime (a := 2) (fs := [2, 3, 7, 19, 47, 47, 127, 8574133]) (by
  intro q hq
  simp only [List.mem_cons, List.not_mem_nil, or_false] at hq
  rcases hq with rfl | rfl | rfl | rfl | rfl | rfl | rfl | rfl
  all_goals first | exact small_primes _ (by decide)  | exact prime_8574133) (by decide +kernel)
theorem prime_317577555688_17 : IsPrime 31757755568855353 := prattOk_prime (a := 10) (fs := [2, 2, 2, 3, 31, 107, 223, 4153, 430751]) (by
  intro q hq
  simp only [List.mem_cons, List.not_mem_nil, or_false] at hq
  rcases hq with rfl | rfl | rfl | rfl | rfl | rfl | rfl | rfl | rfl
  all_goals first | exact small_primes _ (by decide)  | exact prime_4153 | exact prime_430751) (by decide +kernel)
theorem prime_443415561566_19 : IsPrime 4434155615661930479 := prattOk_prime (a := 17) (fs := [2, 41, 43, 1257559732178653]) (by
  intro q hq
  simp only [List.mem_cons, List.not_mem_nil, or_false] at hq
  rcases hq with rfl | rfl | rfl | rfl
  all_goals first | exact small_primes _ (by decide)  | exact prime_125755973217_16) (by decide +kernel)
theorem prime_304486165367_22 : IsPrime 3044861653679985063343 := prattOk_prime (a := 5) (fs := [2, 3, 11, 30703, 82163, 132667, 137849]) (by
  intro q hq
  simp only [List.mem_cons, List.not_mem_nil, or_false] at hq
  rcases hq with rfl | rfl | rfl | rfl | rfl | rfl | rfl
  all_goals first | exact small_primes _ (by decide)  | exact prime_30703 | exact prime_82163 | exact prime_132667 | exact prime_137849) (by decide +kernel)
theorem prime_172054593956_27 : IsPrime 172054593956031949258510691 := prattOk_prime (a := 2) (fs := [2, 5, 1361, 2851, 4434155615661930479]) (by
  intro q hq
  simp only [List.mem_cons, List.not_mem_nil, or_false] at hq
  rcases hq with rfl | rfl | rfl | rfl | rfl
  all_goals first | exact small_primes _ (by decide)  | exact prime_443415561566_19) (by decide +kernel)
theorem prime_198211423230_33 : IsPrime 198211423230930754013084525763697 := prattOk_prime (a := 5) (fs := [2, 2, 2, 2, 3, 23, 58964693, 3044861653679985063343]) (by
  intro q hq
  simp only [List.mem_cons, List.not_mem_nil, or_false] at hq
  rcases hq with rfl | rfl | rfl | rfl | rfl | rfl | rfl | rfl
  all_goals first | exact small_primes _ (by decide)  | exact prime_58964693 | exact prime_304486165367_22) (by decide +kernel)
theorem prime_754457024797_35 : IsPrime 75445702479781427272750846543864801 := prattOk_prime (a := 7) (fs := [2, 2, 2, 2, 2, 3, 3, 5, 5, 75707, 72106336199, 1919519569386763]) (by
  intro q hq
  simp only [List.mem_cons, List.not_mem_nil, or_false] at hq
  rcases hq with rfl | rfl | rfl | rfl | rfl | rfl | rfl | rfl | rfl | rfl | rfl | rfl
  all_goals first | exact small_primes _ (by decide)  | exact prime_75707 | exact prime_72106336199 | exact prime_191951956938_16) (by decide +kernel)
theorem prime_197573303058_41 : IsPrime 19757330305831588566944191468367130476339 := prattOk_prime (a := 2) (fs := [2, 269, 213441916511, 172054593956031949258510691]) (by
  intro q hq
  simp only [List.mem_cons, List.not_mem_nil, or_false] at hq
  rcases hq with rfl | rfl | rfl | rfl
  all_goals first | exact small_primes _ (by decide)  | exact prime_213441916511 | exact prime_172054593956_27) (by decide +kernel)
theorem prime_276602624281_42 : IsPrime 276602624281642239937218680557139826668747 := prattOk_prime (a := 2) (fs := [2, 7, 19757330305831588566944191468367130476339]) (by
  intro q hq
  simp only [List.mem_cons, List.not_mem_nil, or_false] at hq
  rcases hq with rfl | rfl | rfl
  all_goals first | exact small_primes _ (by decide)  | exact prime_197573303058_41) (by decide +kernel)
theorem prime_740582127325_71 : IsPrime 74058212732561358302231226437062788676166966415465897661863160754340907 := prattOk_prime (a := 2) (fs := [2, 3, 353, 57467, 132049, 1923133, 31757755568855353, 75445702479781427272750846543864801]) (by
  intro q hq
  simp only [List.mem_cons, List.not_mem_nil, or_false] at hq
  rcases hq with rfl | rfl | rfl | rfl | rfl | rfl | rfl | rfl
  all_goals first | exact small_primes _ (by decide)  | exact prime_57467 | exact prime_132049 | exact prime_1923133 | exact prime_317577555688_17 | exact prime_754457024797_35) (by decide +kernel)
theorem prime_723700557733_76 : IsPrime 7237005577332262213973186563042994240857116359379907606001950938285454250989 := prattOk_prime (a := 2) (fs := [2, 2, 3, 11, 198211423230930754013084525763697, 276602624281642239937218680557139826668747]) (by
  intro q hq
  simp only [List.mem_cons, List.not_mem_nil, or_false] at hq
  rcases hq with rfl | rfl | rfl | rfl | rfl | rfl
  all_goals first | exact small_primes _ (by decide)  | exact prime_198211423230_33 | exact prime_276602624281_42) (by decide +kernel)
theorem prime_578960446186_77 : IsPrime 57896044618658097711785492504343953926634992332820282019728792003956564819949 := prattOk_prime (a := 2) (fs := [2, 2, 3, 65147, 74058212732561358302231226437062788676166966415465897661863160754340907]) (by
  intro q hq
  simp only [List.mem_cons, List.not_mem_nil, or_false] at hq
  rcases hq with rfl | rfl | rfl | rfl | rfl
  all_goals first | exact small_primes _ (by decide)  | exact prime_65147 | exact prime_740582127325_71) (by decide +kernel)
end Num
