/-
  Walks: wide.Val.
-/
import Derived.Test.YthocjhiapngacaaRows
import Derived.Test.YthocjhiapngacaaWideP
import Derived.WalkKit
import Derived.WalkSpells
import Derived.WalkLawsBesides
set_option linter.all false
namespace Go.Proofs.Ythocjhiapngacaa
open Go.RowKit
theorem ret_u64 {a b : Int} (h : a = b) : Ending.returned (.int .u64 a) = .returned (.int .u64 b) := by rw [h]

/-- One round of 'wide.Val', on numbers. -/
theorem shl_or (n b : Nat) (hn : n < 72057594037927936) (hb : b < 256) :
    bits BinOp.or IntKind.u64 (IntKind.u64.wrap ((n : Int) * 256)) (IntKind.u64.wrap (b : Int)) = ((b + 256 * n : Nat) : Int) := by
  rw [IntKind.wrap_u64, IntKind.wrap_u64]
  have h1 : ((n : Int) * 256) % 18446744073709551616 = ((n * 256 : Nat) : Int) := by omega
  have h2 : (b : Int) % 18446744073709551616 = (b : Int) := by omega
  rw [h1, h2, u64_or_nat _ _ (by omega) (by omega), nat_join 8 (n * 256) b (by omega) (by omega)]
  congr 1
  omega

theorem vnat_drop_step (l : List UInt8) (k : Nat) (h : k < l.length) : vnat (l.drop k) = (l[k]).toNat + 256 * vnat (l.drop (k + 1)) := by
  rw [List.drop_eq_getElem_cons h]; rfl

theorem vnat_drop_lt (l : List UInt8) (k : Nat) (hl : l.length ≤ 8) : vnat (l.drop (k + 1)) < 72057594037927936 := by
  have h := vnat_lt (l.drop (k + 1))
  have hl' : (l.drop (k + 1)).length ≤ 7 := by simp; omega
  have := Nat.pow_le_pow_right (n := 256) (by omega) hl'
  omega

theorem val_round (s : ByteArray) (k : Nat) (h8 : k < 8) (hk : k < s.size) :
    bits BinOp.or IntKind.u64 (IntKind.u64.wrap ((vnat ((s.data.toList.take 8).drop (k + 1)) : Int) * 256)) (IntKind.u64.wrap ((s[k]'hk).toNat : Int)) =
      (vnat ((s.data.toList.take 8).drop k) : Int) := by
  have hlt : k < (s.data.toList.take 8).length := by simp; omega
  have hst := vnat_drop_step (s.data.toList.take 8) k hlt
  have hvl := vnat_drop_lt (s.data.toList.take 8) k (List.length_take_le _ _)
  have hb : (s.data.toList.take 8)[k] = s[k] := by simp; rfl
  rw [shl_or _ _ hvl (UInt8.toNat_lt _), hst, hb]

set_option maxHeartbeats 400000 in
theorem wide_Val (s : ByteArray) (w : World) (hs : s.size ≤ 140737488351232) :
    Calls Try.prog 57 #[.string s] w fun e w' => e = .returned (.int .u64 (wval s)) ∧ w = w' := by
  go_enter Try.func57, Try.ntmps57
  go_wp2
  all_goals
    go_loop [3, 4] (fun n i => ∃ k : Nat, k ≤ 8 ∧ k ≤ s.size ∧ i = .int .i64 ((k : Int) - 1) ∧ n = .int .u64 (vnat ((s.data.toList.take 8).drop k))) (fun _ i => (intOf i + 1).toNat)
  case atStart => exact ⟨8, by omega, by omega, rfl, by rw [List.drop_eq_nil_of_le (by simp; omega)]; rfl⟩
  case atStart => exact ⟨s.size, by omega, by omega, rfl, by rw [List.drop_eq_nil_of_le (by simp; omega)]; rfl⟩
  all_goals
    obtain ⟨k, hk8, hks, rfl, rfl⟩ := hrel
    cases k with
    | zero =>
      go_wp2
      go_ret
      exact ⟨rfl, rfl⟩
    | succ k =>
      go_wp2
      go_round
      case rel => exact ⟨k, by omega, by omega, rfl, by rw [val_round s k (by omega) (by omega)]⟩
      case measure => simp [intOf]
end Go.Proofs.Ythocjhiapngacaa
