/-
  Walks: wide.Num and the reference's value.
-/
import Derived.Test.YthocjhiapngacaaWideB
set_option linter.all false
namespace Go.Proofs.Ythocjhiapngacaa
open Go.RowKit

theorem r01_val_step (s : ByteArray) (k : Nat) (h8 : k < 8) (hk : k < s.size) :
    vnat (s.data.toList.take k) + 256 ^ k * (s[k]'hk).toNat = vnat (s.data.toList.take (k + 1)) := by
  have hlt : k < s.data.toList.length := by simp; exact hk
  rw [List.take_succ_eq_append_getElem hlt, vnat_append, List.length_take, Nat.min_eq_left (by omega)]
  have : s.data.toList[k] = s[k] := by simp; rfl
  simp [vnat, this]

theorem mod_mul256 (x M : Nat) : x % M * 256 % M = x * 256 % M := by
  rw [Nat.mul_mod, Nat.mod_mod, ← Nat.mul_mod]

theorem cast_mul256 (b : Nat) : ((b : Int) * 256) % 18446744073709551616 = ((b * 256 % 18446744073709551616 : Nat) : Int) := by omega

theorem r01_worth (b k : Nat) (h : b = 256 ^ k % 18446744073709551616) : IntKind.u64.wrap ((b : Int) * 256) = ((256 ^ (k + 1) % 18446744073709551616 : Nat) : Int) := by
  rw [IntKind.wrap_u64, Nat.pow_succ, cast_mul256, h, mod_mul256]

theorem r01_val_lt (s : ByteArray) (k a : Nat) (h8 : k < 8) (hk : k < s.size) (ha : a = vnat (s.data.toList.take k)) : a + 256 ^ k * (s[k]'hk).toNat < 18446744073709551616 := by
  rw [ha, r01_val_step s k h8 hk]
  have h := vnat_lt (s.data.toList.take (k + 1))
  have hl : (s.data.toList.take (k + 1)).length ≤ 8 := by simp; omega
  have := Nat.pow_le_pow_right (n := 256) (by omega) hl
  omega

theorem r01_val_wrap (a b k c : Nat) (h8 : k < 8) (hc : c < 256) (hb : b = 256 ^ k % 18446744073709551616) (hs : a + 256 ^ k * c < 18446744073709551616) :
    IntKind.u64.wrap ((a : Int) + IntKind.u64.wrap ((b : Int) * IntKind.u64.wrap (c : Int))) = ((a + 256 ^ k * c : Nat) : Int) := by
  have hp : 256 ^ k < 18446744073709551616 := Nat.lt_of_le_of_lt (Nat.pow_le_pow_right (by omega) (show k ≤ 7 by omega)) (by omega)
  rw [Nat.mod_eq_of_lt hp] at hb
  subst hb
  have e1 : (c : Int) % 18446744073709551616 = (c : Int) := by omega
  rw [IntKind.wrap_u64, IntKind.wrap_u64, IntKind.wrap_u64, e1]
  have e2 : ((256 ^ k : Nat) : Int) * (c : Int) = ((256 ^ k * c : Nat) : Int) := by rw [Int.natCast_mul]
  rw [e2]
  omega

set_option maxHeartbeats 400000 in
theorem r01_Val (s : ByteArray) (w : World) (hs : s.size ≤ 140737488351232) :
    Calls Try.prog 50 #[.string s] w fun e w' => e = .returned (.int .u64 (wval s)) ∧ w = w' := by
  go_enter Try.func50, Try.ntmps50
  go_wp2
  go_loopg [3, 4, 5] 8 (fun g n m i wr => ∃ (k a b : Nat), k + g = 8 ∧ k ≤ s.size ∧ i = .int .i64 k ∧ n = .int .u64 a ∧ m = .int .u64 b ∧ wr = w ∧ a = vnat (s.data.toList.take k) ∧ b = 256 ^ k % 18446744073709551616)
  case atStart => exact ⟨0, 0, 1, by omega, by omega, rfl, rfl, rfl, rfl, rfl, rfl⟩
  case round =>
    obtain ⟨k, a, b, hk, hks, rfl, rfl, rfl, rfl, ha, hb⟩ := hrel
    have Hk := hid hk
    have Ha := hid ha
    have Hb := hid hb
    clear hk ha hb
    by_cases hlt : k < s.size
    · by_cases h8 : k < 8
      · go_wp2
        go_roundg (gk - 1)
        case rel => exact ⟨k + 1, a + 256 ^ k * (s[k]'hlt).toNat, 256 ^ (k + 1) % 18446744073709551616, by have := Hk.out; omega, by omega, by go_num, by rw [r01_val_wrap a b k _ h8 (UInt8.toNat_lt _) Hb.out (r01_val_lt s k a h8 hlt Ha.out)], by rw [r01_worth b k Hb.out], rfl, by rw [Ha.out, r01_val_step s k h8 hlt], rfl⟩
        case measure => have := Hk.out; omega
      · obtain rfl : k = 8 := by have := Hk.out; omega
        go_wp2
        go_ret
        exact ⟨ret_u64 (by rw [Ha.out]; rfl), rfl⟩
    · go_wp2
      go_ret
      exact ⟨ret_u64 (by rw [Ha.out, wval, List.take_of_length_le (by simp; omega), List.take_of_length_le (by simp; have := Hk.out; omega)]), rfl⟩

/-- The eight cells of 'wide.Num' behind k rounds. -/
def cells8 (n k : Nat) : List Value := (numL n k ++ List.replicate (8 - k) 0).map fun b : UInt8 => Value.int .u8 b.toNat

theorem cells8_step (n k r : Nat) (hk : k < 8) (h : r = n / 256 ^ k) : (cells8 n k).set k (.int .u8 ((r : Int) % 256)) = cells8 n (k + 1) := by
  have e : ((r : Int) % 256) = (((UInt8.ofNat (n / 256 ^ k % 256)).toNat : Nat) : Int) := by
    rw [← h]
    have : (UInt8.ofNat (r % 256)).toNat = r % 256 := by simp [UInt8.toNat_ofNat']
    rw [this]; omega
  rw [e]
  simp only [cells8]
  rw [← List.map_set, numL_snoc]
  congr 1
  rw [List.set_append_right _ _ (by rw [numL_length]; omega), numL_length, Nat.sub_self]
  obtain ⟨m, hm⟩ : ∃ m, 8 - k = m + 1 := ⟨7 - k, by omega⟩
  have hm' : 8 - (k + 1) = m := by omega
  rw [hm, hm', List.replicate_succ, List.set_cons_zero, List.append_assoc]
  rfl

theorem cells8_get (n k j : Nat) (hk : k ≤ 8) (hj : j < 8) : ∃ v, (cells8 n k)[j]? = some v := by
  have : j < (cells8 n k).length := by simp [cells8, numL_length]; omega
  exact ⟨_, List.getElem?_eq_getElem this⟩

theorem cells8_num (n k j : Nat) (hj : j < k) : (cells8 n k)[j]? = some (.int .u8 (((numL n k).map fun b : UInt8 => (b.toNat : Int)).getD j 0)) := by
  have hl := numL_length n k
  simp [cells8, List.getElem?_append_left, hl, hj]

theorem strOfNums_numL (n k : Nat) : strOfNums ((numL n k).map fun b : UInt8 => (b.toNat : Int)) = numS n k := by
  simp only [strOfNums, numS, List.map_map]
  congr 2
  have : ((fun n : Int => UInt8.ofNat n.toNat) ∘ fun b : UInt8 => (b.toNat : Int)) = id := by
    funext b; simp
  rw [this, List.map_id]

set_option maxHeartbeats 400000 in
theorem wide_Num_core (n m : Nat) (w : World) (hn : n < 18446744073709551616) (hm : m ≤ 8) :
    Calls Try.prog 33 #[.int .u64 n, .int .i64 m] w fun e w' => e = .returned (.string (numS n m)) ∧ Nul w w' := by
  go_enter Try.func33, Try.ntmps33
  go_wp2
  go_loopg [0, 7, 12] m (fun g r j i wr => ∃ (k a : Nat), k + g = m ∧ i = .int .i64 k ∧ r = .int .u64 a ∧ Nul w wr ∧ Blk wr w.heap.size 85 (cells8 n k) ∧ a < 18446744073709551616 ∧ a = n / 256 ^ k)
  case atStart => exact ⟨0, n, by omega, rfl, rfl, (Frm.refl _ _).alloc _, Blk.new w _ _, hn, by simp⟩
  case round =>
    obtain ⟨k, a, hk, rfl, rfl, hf, hB, ha, han⟩ := hrel
    have Hk := hid hk
    have Ha := hid han
    clear hk han
    by_cases hlt : k < m
    · have h8 : k < 8 := by omega
      obtain ⟨v, hv⟩ := cells8_get n k k (by omega) h8
      have hc : wr.cell? ⟨w.heap.size, k, none⟩ = some v := by rw [hB.cell]; exact hv
      have hfz : wr.frozen? ⟨w.heap.size, k, none⟩ = false := hB.frozen k
      clear hv
      go_wp2
      go_roundg (gk - 1)
      case rel => exact ⟨k + 1, a / 256, by have := Hk.out; omega, by go_num, by go_num, hf.setCell (.inl (Nat.le_refl _)) _, by have := hB.put k (.int .u8 ((a : Int) % 256)); rw [cells8_step n k a h8 Ha.out] at this; exact this, by omega, by rw [Ha.out, Nat.div_div_eq_div_mul, Nat.pow_succ]⟩
      case measure => have := Hk.out; omega
    · obtain rfl : k = m := by have := Hk.out; omega
      have hcv := run_convert_bytes_arg (P := Try.prog) wr 64 5 Try.underlying64 Try.underlying5 w.heap.size 0 k 8 ((numL n k).map fun b : UInt8 => (b.toNat : Int)) (by simp [numL_length])
        (fun i hi => by rw [Nat.zero_add, hB.cell]; exact cells8_num n k i hi) 9 Try.underlying9
      rw [strOfNums_numL] at hcv
      have hm2 : (k : Int) ≤ 8 := by omega
      go_wp2
      go_ret
      exact ⟨rfl, hf⟩

set_option maxHeartbeats 400000 in
theorem wide_Num_big (n : Nat) (W : Int) (w : World) (hn : n < 18446744073709551616) (hW : 8 < W) :
    Calls Try.prog 33 #[.int .u64 n, .int .i64 W] w fun e w' => e = .returned (.string (numS n 8)) ∧ Nul w w' := by
  go_enter Try.func33, Try.ntmps33
  go_wp2
  go_loopg [0, 7, 12] 8 (fun g r j i wr => ∃ (k a : Nat), k + g = 8 ∧ i = .int .i64 k ∧ r = .int .u64 a ∧ Nul w wr ∧ Blk wr w.heap.size 85 (cells8 n k) ∧ a < 18446744073709551616 ∧ a = n / 256 ^ k)
  case atStart => exact ⟨0, n, by omega, rfl, rfl, (Frm.refl _ _).alloc _, Blk.new w _ _, hn, by simp⟩
  case round =>
    obtain ⟨k, a, hk, rfl, rfl, hf, hB, ha, han⟩ := hrel
    have Hk := hid hk
    have Ha := hid han
    clear hk han
    by_cases hlt : k < 8
    · have h8 := hlt
      obtain ⟨v, hv⟩ := cells8_get n k k (by omega) h8
      have hc : wr.cell? ⟨w.heap.size, k, none⟩ = some v := by rw [hB.cell]; exact hv
      have hfz : wr.frozen? ⟨w.heap.size, k, none⟩ = false := hB.frozen k
      clear hv
      go_wp2
      go_roundg (gk - 1)
      case rel => exact ⟨k + 1, a / 256, by have := Hk.out; omega, by go_num, by go_num, hf.setCell (.inl (Nat.le_refl _)) _, by have := hB.put k (.int .u8 ((a : Int) % 256)); rw [cells8_step n k a h8 Ha.out] at this; exact this, by omega, by rw [Ha.out, Nat.div_div_eq_div_mul, Nat.pow_succ]⟩
      case measure => have := Hk.out; omega
    · obtain rfl : k = 8 := by have := Hk.out; omega
      have hcv := run_convert_bytes_arg (P := Try.prog) wr 64 5 Try.underlying64 Try.underlying5 w.heap.size 0 8 8 ((numL n 8).map fun b : UInt8 => (b.toNat : Int)) (by simp [numL_length])
        (fun i hi => by rw [Nat.zero_add, hB.cell]; exact cells8_num n 8 i hi) 9 Try.underlying9
      rw [strOfNums_numL] at hcv
      go_wp2
      go_ret
      exact ⟨rfl, hf⟩

set_option maxHeartbeats 400000 in
theorem wide_Num_neg (n : Nat) (W : Int) (w : World) (hn : n < 18446744073709551616) (hW : W < 0) :
    Calls Try.prog 33 #[.int .u64 n, .int .i64 W] w fun e w' => e = .returned (.string (numS n 0)) ∧ Nul w w' := by
  have hcv := fun wr : World => run_convert_bytes_arg (P := Try.prog) wr 64 5 Try.underlying64 Try.underlying5 w.heap.size 0 0 8 [] rfl
        (fun i hi => by omega) 9 Try.underlying9
  have hS : numS n 0 = strOfNums [] := rfl
  rw [hS]
  go_enter Try.func33, Try.ntmps33
  go_wp2
  refine wp_loop_rounds 1 ?_
  rw [rounds_succ]
  go_wp2
  go_ret
  exact ⟨rfl, (Frm.refl _ _).alloc _⟩

theorem wide_Num (n : Nat) (W : Int) (w : World) (hn : n < 18446744073709551616) :
    Calls Try.prog 33 #[.int .u64 n, .int .i64 W] w fun e w' => e = .returned (.string (numS n (min W.toNat 8))) ∧ Nul w w' := by
  by_cases h0 : W < 0
  · rw [show min W.toNat 8 = 0 from by omega]
    exact wide_Num_neg n W w hn h0
  · by_cases h8 : 8 < W
    · rw [show min W.toNat 8 = 8 from by omega]
      exact wide_Num_big n W w hn h8
    · obtain ⟨m, rfl⟩ := Int.eq_ofNat_of_zero_le (show 0 ≤ W by omega)
      rw [show min ((m : Int).toNat) 8 = m from by omega]
      exact wide_Num_core n m w hn (by omega)
end Go.Proofs.Ythocjhiapngacaa
