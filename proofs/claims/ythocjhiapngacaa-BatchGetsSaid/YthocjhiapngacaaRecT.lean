/-
  Plain facts: what was put is got again.
-/
import Derived.Test.YthocjhiapngacaaRecQ
set_option linter.all false
namespace Go.Proofs.Ythocjhiapngacaa
open Go.RowKit

theorem entPut_bs (d : Bool) (v : ByteArray) : entPut d v = bs (if d then [0] else 1 :: v.data.toList) := by
  unfold entPut
  cases d
  · show (⟨#[1]⟩ : ByteArray) ++ v = bs (1 :: v.data.toList)
    apply ByteArray.ext
    apply Array.ext'
    simp [bs]
  · rfl
theorem entGet_put (d : Bool) (v : ByteArray) (h : entChk d v = 0) : entGet (entPut d v) = (d, v, 0) := by
  unfold entChk at h
  by_cases h1 : 65536 < v.size
  · rw [if_pos h1] at h; cases h
  rw [if_neg h1] at h
  cases d with
  | true =>
    have hv : v.size = 0 := by
      rcases Nat.eq_zero_or_pos v.size with h0 | h0
      · exact h0
      · rw [if_pos ⟨rfl, by omega⟩] at h; cases h
    obtain rfl := size0 hv
    rfl
  | false =>
    have e : entPut false v = ⟨#[1]⟩ ++ v := rfl
    have hs : (⟨#[1]⟩ ++ v : ByteArray).size = v.size + 1 := by
      rw [ByteArray.size_append]
      show 1 + v.size = _
      omega
    rw [e]
    unfold entGet
    rw [if_neg (by omega)]
    have ho : one1 (⟨#[1]⟩ ++ v : ByteArray) = true := by
      have := entPut_bs false v
      rw [e] at this
      rw [this]
      rfl
    rw [ho, if_pos rfl, if_neg (by omega)]
    have : (⟨#[1]⟩ ++ v : ByteArray).extract 1 (⟨#[1]⟩ ++ v : ByteArray).size = v := by
      have e2 := entPut_bs false v
      rw [e] at e2
      rw [e2, bs_extract, bs_size]
      simp only [Bool.false_eq_true, if_false, List.length_cons, Nat.add_sub_cancel, List.drop_succ_cons, List.drop_zero, List.take_length]
      apply ByteArray.ext
      simp [bs]
    rw [this]

theorem numL_small {n : Nat} (h : n < 256) : numL n 1 = [UInt8.ofNat n] := by
  simp only [numL]
  rw [Nat.mod_eq_of_lt h]

theorem recGet_put {r : Rcd} (hok : r.ok) (h : recGood r = true) : recGet (recS r) = (r, 0) := by
  rw [recGet_ref]
  rcases recGood_shape h with ⟨k, d, v, hr | hr, he⟩ | ⟨k, hr | hr⟩ | ⟨m, hr, hm⟩
  · subst hr
    have hk : k.length = 32 := hok.1
    have e1 : recS ⟨1, k, d, v, zero32, 0⟩ = bs (1 :: (k ++ if d then [0] else 1 :: v.data.toList)) := by
      show (numS 1 1 ++ bs k) ++ entPut d v = _
      rw [entPut_bs, numS_bs, bs_append, bs_append, numL_small (by omega), List.append_assoc]
      rfl
    have hne : 1 ≤ (if d then ([0] : List UInt8) else 1 :: v.data.toList).length := by cases d <;> simp
    rw [e1, refGet_cons, if_pos (.inl rfl), if_neg (by rw [List.length_append]; omega), List.drop_left' hk, List.take_left' hk, ← entPut_bs, entGet_put d v he]
    rfl
  · subst hr
    have hk : k.length = 32 := hok.1
    have e1 : recS ⟨2, k, d, v, zero32, 0⟩ = bs (2 :: (k ++ if d then [0] else 1 :: v.data.toList)) := by
      show (numS 2 1 ++ bs k) ++ entPut d v = _
      rw [entPut_bs, numS_bs, bs_append, bs_append, numL_small (by omega), List.append_assoc]
      rfl
    have hne : 1 ≤ (if d then ([0] : List UInt8) else 1 :: v.data.toList).length := by cases d <;> simp
    rw [e1, refGet_cons, if_pos (.inr rfl), if_neg (by rw [List.length_append]; omega), List.drop_left' hk, List.take_left' hk, ← entPut_bs, entGet_put d v he]
    rfl
  · subst hr
    have hk : k.length = 32 := hok.2
    have e1 : recS ⟨3, zero32, false, ⟨#[]⟩, k, 0⟩ = bs (3 :: k) := by
      show numS 3 1 ++ bs k = _
      rw [numS_bs, bs_append, numL_small (by omega)]
      rfl
    rw [e1, refGet_cons, if_neg (by decide), if_pos (.inl rfl), if_neg (by omega), List.take_of_length_le (by omega)]
    unfold recFin
    rw [if_neg (by simp)]
    exact if_pos ⟨h, e1⟩
  · subst hr
    have hk : k.length = 32 := hok.2
    have e1 : recS ⟨4, zero32, false, ⟨#[]⟩, k, 0⟩ = bs (4 :: k) := by
      show numS 4 1 ++ bs k = _
      rw [numS_bs, bs_append, numL_small (by omega)]
      rfl
    rw [e1, refGet_cons, if_neg (by decide), if_pos (.inr rfl), if_neg (by omega), List.take_of_length_le (by omega)]
    unfold recFin
    rw [if_neg (by simp)]
    exact if_pos ⟨h, e1⟩
  · subst hr
    have e1 : recS ⟨5, zero32, false, ⟨#[]⟩, zero32, (m : Int)⟩ = bs (5 :: numL m 4) := by
      show numS 5 1 ++ numS (Int.toNat (m : Int)) 4 = _
      rw [numS_bs, numS_bs, bs_append, numL_small (by omega), Int.toNat_natCast]
      rfl
    have hl := numL_length m 4
    rw [e1, refGet_cons, if_neg (by decide), if_neg (by decide), if_pos (by decide), if_neg (by omega), List.take_of_length_le (by omega), wval_bs, List.take_of_length_le (by omega), vnat_numL, Nat.mod_eq_of_lt (by omega)]
    unfold recFin
    rw [if_neg (by simp)]
    exact if_pos ⟨h, e1⟩

theorem recFin_spec (s : ByteArray) (r : Rcd) (e : Int) (hok : r.ok) (hv : r.val.size ≤ 65536) : (recFin s r e).1.ok ∧ (recFin s r e).1.val.size ≤ 65536 ∧ ((recFin s r e).2 = 0 → recGood (recFin s r e).1 = true ∧ recS (recFin s r e).1 = s) ∧ ((recFin s r e).2 ≠ 0 → (recFin s r e).1 = rzero) := by
  unfold recFin
  split
  · rename_i h
    exact ⟨⟨rfl, rfl⟩, by show 0 ≤ _; omega, fun h0 => absurd h0 h, fun _ => rfl⟩
  · split
    · rename_i h
      exact ⟨hok, hv, fun _ => h, fun h0 => absurd rfl h0⟩
    · exact ⟨⟨rfl, rfl⟩, by show 0 ≤ _; omega, fun h0 => absurd h0 (by decide), fun _ => rfl⟩
theorem recGet_spec (s : ByteArray) : (recGet s).1.ok ∧ (recGet s).1.val.size ≤ 65536 ∧ ((recGet s).2 = 0 → recGood (recGet s).1 = true ∧ recS (recGet s).1 = s) ∧ ((recGet s).2 ≠ 0 → (recGet s).1 = rzero) := by
  unfold recGet
  have hp : (recParse s).1.ok ∧ (recParse s).1.val.size ≤ 65536 := by
    unfold recParse
    split
    · exact ⟨⟨key32_length (takeC_le _ _), rfl⟩, entGet_size _⟩
    · split
      · exact ⟨⟨rfl, rfl⟩, by show 0 ≤ _; omega⟩
      · split
        · exact ⟨⟨rfl, key32_length (takeC_le _ _)⟩, by show 0 ≤ _; omega⟩
        · exact ⟨⟨rfl, rfl⟩, by show 0 ≤ _; omega⟩
  exact recFin_spec s _ _ hp.1 hp.2
end Go.Proofs.Ythocjhiapngacaa
