/-
  Walks: the statement WideValues.
-/
import Derived.Test.YtokebghephfjhaaWideG
set_option linter.all false
namespace Go.Proofs.Ytokebghephfjhaa
open Go.RowKit

theorem wval_numS (n k : Nat) (hk : k ≤ 8) : wval (numS n k) = n % 256 ^ k := by
  have h : (numS n k).data.toList = numL n k := rfl
  rw [wval, h, List.take_of_length_le (by rw [numL_length]; exact hk), vnat_numL]

set_option maxHeartbeats 400000 in
theorem law_WideValues (s : ByteArray) (n : Nat) (w : World) (hs : s.size ≤ maxLen) (hn : n < 18446744073709551616) :
    Calls Try.prog 5 #[.string s, .int .u64 n] w fun e w' => e = .returned (.bool true) ∧ Nul w w' := by
  unfold maxLen at hs
  by_cases h1 : 100 < s.size
  · go_enter Try.func5, Try.ntmps5
    go_wp2_with fail
    refine (awake01 w).mono ?_
    rintro e w1 ⟨rfl, hf1⟩
    go_wp2_with fail
    go_ret
    exact ⟨rfl, hf1⟩
  · have e8 : wval (numS n 8) = n := by rw [wval_numS n 8 (by omega)]; omega
    have e3 : wval (numS n 3) = n % 16777216 := by rw [wval_numS n 3 (by omega)]
    have E8 := hid e8
    have E3 := hid e3
    clear e8 e3
    go_enter Try.func5, Try.ntmps5
    go_wp2_with fail
    refine (awake01 w).mono ?_
    rintro e w1 ⟨rfl, hf1⟩
    go_wp2_with fail
    refine (wide_Val s w1 (by omega)).mono ?_
    rintro e w2 ⟨rfl, rfl⟩
    go_wp2_with fail
    refine (r01_Val s w1 (by omega)).mono ?_
    rintro e w2 ⟨rfl, rfl⟩
    go_wp2_with fail
    refine (wide_Num_core n 8 w1 hn (by omega)).mono ?_
    rintro e w2 ⟨rfl, hf2⟩
    go_wp2_with fail
    refine (wide_Val _ w2 (by rw [numS_size]; omega)).mono ?_
    rw [E8.out]
    rintro e w3 ⟨rfl, rfl⟩
    go_wp2_with fail
    refine (wide_Num_core n 3 w2 hn (by omega)).mono ?_
    rintro e w3 ⟨rfl, hf3⟩
    go_wp2_with fail
    refine (wide_Val _ w3 (by rw [numS_size]; omega)).mono ?_
    rw [E3.out]
    rintro e w4 ⟨rfl, rfl⟩
    go_wp2_with fail
    go_ret
    exact ⟨rfl, (hf1.nul hf2).nul hf3⟩
end Go.Proofs.Ytokebghephfjhaa
