/-
  Plain facts on little-endian numbers as lists of bytes (layer wide): no program in sight.
-/
import Derived.Test.YthocjhiapngacaaMem
set_option linter.all false
namespace Go.Proofs.Ythocjhiapngacaa

/-- The number of bytes, the lowest first. -/
def vnat : List UInt8 → Nat
  | [] => 0
  | b :: l => b.toNat + 256 * vnat l

theorem vnat_lt (l : List UInt8) : vnat l < 256 ^ l.length := by
  induction l with
  | nil => simp [vnat]
  | cons b l ih =>
    have hb : b.toNat < 256 := b.toNat_lt
    simp only [vnat, List.length_cons, Nat.pow_succ]
    omega

theorem vnat_append (a b : List UInt8) : vnat (a ++ b) = vnat a + 256 ^ a.length * vnat b := by
  induction a with
  | nil => simp [vnat]
  | cons x a ih =>
    simp only [List.cons_append, vnat, ih, List.length_cons, Nat.pow_succ, Nat.mul_add, ← Nat.mul_assoc, Nat.add_assoc]
    congr 2
    rw [Nat.mul_comm 256]

/-- 'wide.Val' of a text. -/
def wval (s : ByteArray) : Nat := vnat (s.data.toList.take 8)

theorem wval_lt (s : ByteArray) : wval s < 18446744073709551616 := by
  have h := vnat_lt (s.data.toList.take 8)
  have hl : (s.data.toList.take 8).length ≤ 8 := List.length_take_le _ _
  have := Nat.pow_le_pow_right (n := 256) (by omega) hl
  unfold wval
  omega

/-- A number in so many bytes. -/
def numL : Nat → Nat → List UInt8
  | _, 0 => []
  | n, w + 1 => UInt8.ofNat (n % 256) :: numL (n / 256) w

theorem numL_length (n w : Nat) : (numL n w).length = w := by
  induction w generalizing n with
  | zero => rfl
  | succ w ih => simp [numL, ih]

theorem numL_snoc (n k : Nat) : numL n (k + 1) = numL n k ++ [UInt8.ofNat (n / 256 ^ k % 256)] := by
  induction k generalizing n with
  | zero => simp [numL]
  | succ k ih =>
    rw [numL, ih (n / 256)]
    simp only [numL, List.cons_append]
    rw [Nat.div_div_eq_div_mul, Nat.pow_succ, Nat.mul_comm 256]

theorem vnat_numL (n w : Nat) : vnat (numL n w) = n % 256 ^ w := by
  induction w generalizing n with
  | zero => simp [numL, vnat, Nat.mod_one]
  | succ w ih =>
    simp only [numL, vnat, ih, Nat.pow_succ]
    have h1 : (UInt8.ofNat (n % 256)).toNat = n % 256 := by
      simp [UInt8.toNat_ofNat']
    rw [h1, Nat.mul_comm (256 ^ w) 256, Nat.mod_mul]

end Go.Proofs.Ythocjhiapngacaa
