/-
  Walks: the reference's numbers.
-/
import Derived.Test.YthocjhiapngacaaWideA
import Derived.IntWalk
import Derived.Deep.LoopGhost
set_option linter.all false
namespace Go.Proofs.Ythocjhiapngacaa
open Go.RowKit

/-- A number in so many bytes, as a text. -/
def numS (n w : Nat) : ByteArray := ⟨(numL n w).toArray⟩

theorem numS_size (n w : Nat) : (numS n w).size = w := by simp [numS, ByteArray.size, numL_length]

theorem str_one (P : Program) (src dst e : TypeId) (hs : P.underlying src = some (.slice e)) (he : P.underlying e = some (.int .u8)) (hd : P.underlying dst = some .string) (w : World) (x : Int) :
    (convert src dst (.slice (some ⟨w.heap.size, 0, none⟩) 1 1)).run P (w.alloc (.cells #[.int .u8 x] e)) = .ok (.string (strOfNums [x])) (w.alloc (.cells #[.int .u8 x] e)) :=
  run_convert_bytes_arg _ src e hs he w.heap.size 0 1 1 [x] rfl (fun i hi => by
    obtain rfl : i = 0 := by omega
    rw [World.cell?_alloc_at _ _ _ _ rfl]; rfl) dst hd

theorem numS_snoc (n k r : Nat) (h : r = n / 256 ^ k) : numS n k ++ strOfNums [(r : Int) % 256] = numS n (k + 1) := by
  have e : ((r : Int) % 256).toNat = r % 256 := by omega
  simp only [numS, strOfNums, numL_snoc n k, ← h, List.map_cons, List.map_nil, e]
  apply ByteArray.ext
  simp

set_option maxHeartbeats 400000 in
theorem r01_Num (n : Nat) (W : Nat) (w : World) (hW : W ≤ 8) (hn : n < 18446744073709551616) :
    Calls Try.prog 45 #[.int .u64 n, .int .i64 W] w fun e w' => e = .returned (.string (numS n W)) ∧ Nul w w' := by
  have hcv := str_one Try.prog 64 9 5 Try.underlying64 Try.underlying5 Try.underlying9
  go_enter Try.func45, Try.ntmps45
  go_wp2
  go_loopg [0, 5, 6] W (fun g m s i wr => ∃ (k : Nat) (r : Nat), k + g = W ∧ i = .int .i64 k ∧ m = .int .u64 r ∧ s = .string (numS n k) ∧ Nul w wr ∧ r < 18446744073709551616 ∧ r = n / 256 ^ k)
  case atStart => exact ⟨0, n, by omega, rfl, rfl, rfl, Frm.refl _ _, hn, by simp⟩
  case round =>
    obtain ⟨k, r, hk, rfl, rfl, rfl, hb, hr, hrn⟩ := hrel
    have Hrn := hid hrn
    have Hk := hid hk
    clear hrn hk
    by_cases hlt : k < W
    · have hz1 : ∀ x, (strOfNums [x]).size = 1 := fun _ => rfl
      have hsz : (numS n k).size ≤ 8 := by rw [numS_size]; omega
      go_wp2
      go_roundg (gk - 1)
      case rel => exact ⟨k + 1, r / 256, by have := Hk.out; omega, by go_num, by go_num, by rw [numS_snoc n k r Hrn.out], hb.alloc _, by omega, by rw [Hrn.out, Nat.div_div_eq_div_mul, Nat.pow_succ]⟩
      case measure => have := Hk.out; omega
    · obtain rfl : W = k := by have := Hk.out; omega
      go_wp2
      go_ret
      exact ⟨rfl, hb⟩
end Go.Proofs.Ythocjhiapngacaa
