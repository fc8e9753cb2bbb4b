/-
  Plain facts: what the document gets out of a text is what the code gets.
-/
import Derived.Test.YthocjhiapngacaaRecI
set_option linter.all false
namespace Go.Proofs.Ythocjhiapngacaa
open Go.RowKit

/-- A text of bytes. -/
def bs (l : List UInt8) : ByteArray := ⟨l.toArray⟩
theorem bs_of (s : ByteArray) : ∃ l, s = bs l := ⟨s.data.toList, by apply ByteArray.ext; simp [bs]⟩
theorem bs_size (l : List UInt8) : (bs l).size = l.length := by show l.toArray.size = _; simp
theorem bs_toList (l : List UInt8) : (bs l).data.toList = l := by simp [bs]
theorem bs_inj {a b : List UInt8} (h : bs a = bs b) : a = b := by
  have := congrArg (fun s : ByteArray => s.data.toList) h
  simpa [bs] using this
theorem bs_append (a b : List UInt8) : bs a ++ bs b = bs (a ++ b) := by
  apply ByteArray.ext
  simp [bs]
theorem bs_extract (l : List UInt8) (i j : Nat) : (bs l).extract i j = bs ((l.drop i).take (j - i)) := by
  apply ByteArray.ext
  apply Array.ext'
  simp only [ByteArray.data_extract, bs, List.extract_toArray, List.extract_eq_drop_take]
theorem bs_empty : ByteArray.empty = bs [] := rfl
theorem bs_nil : (⟨#[]⟩ : ByteArray) = bs [] := rfl
theorem numS_bs (n w : Nat) : numS n w = bs (numL n w) := rfl
theorem wval_bs (l : List UInt8) : wval (bs l) = vnat (l.take 8) := by unfold wval; rw [bs_toList]

/-- What the document gets out of a text. -/
def refGet (s : ByteArray) : Rcd × Int :=
  if s.size = 0 then (rzero, 5)
  else if (s.data.toList.getD 0 0).toNat = 1 ∨ (s.data.toList.getD 0 0).toNat = 2 then
    (if s.size < 34 then (rzero, 5)
     else if (entGet (s.extract 33 s.size)).2.2 ≠ 0 then (rzero, 6)
     else (⟨(s.data.toList.getD 0 0).toNat, (s.extract 1 s.size).data.toList.take 32, (entGet (s.extract 33 s.size)).1, (entGet (s.extract 33 s.size)).2.1, zero32, 0⟩, 0))
  else if (s.data.toList.getD 0 0).toNat = 3 ∨ (s.data.toList.getD 0 0).toNat = 4 then
    (if s.size < 33 then (rzero, 5) else recFin s ⟨(s.data.toList.getD 0 0).toNat, zero32, false, ⟨#[]⟩, (s.extract 1 s.size).data.toList.take 32, 0⟩ 0)
  else if (s.data.toList.getD 0 0).toNat = 5 then
    (if s.size < 5 then (rzero, 5) else recFin s ⟨5, zero32, false, ⟨#[]⟩, zero32, wval (s.extract 1 5)⟩ 0)
  else (rzero, 6)

theorem takeC_bs (l : List UInt8) (n : Nat) : takeC (bs l) 0 n = if l.length < n then (bs [], bs [], 5) else (bs (l.take n), bs (l.drop n), 0) := by
  unfold takeC
  rw [if_neg (by simp)]
  by_cases h : l.length < n
  · rw [if_pos h, if_pos (by rw [bs_size]; omega)]
    rfl
  · rw [if_neg h, if_neg (by rw [bs_size]; omega), bs_extract, bs_extract, Int.toNat_natCast, bs_size]
    simp only [List.drop_zero, Nat.sub_zero]
    rw [List.take_of_length_le (l := l.drop n) (by simp)]
theorem takeC_err (s : ByteArray) (e n : Int) (h : e ≠ 0) : takeC s e n = (bs [], s, e) := by
  unfold takeC
  rw [if_pos h]
  rfl
theorem numC_bs (l : List UInt8) (n : Nat) (h1 : 1 ≤ n) (h8 : n ≤ 8) : numC (bs l) 0 n = if l.length < n then (0, bs [], 5) else (vnat (l.take n), bs (l.drop n), 0) := by
  unfold numC
  rw [if_neg (by omega), takeC_bs]
  by_cases h : l.length < n
  · rw [if_pos h, if_pos h]
    rfl
  · rw [if_neg h, if_neg h]
    simp only [wval_bs]
    rw [List.take_take, Nat.min_eq_right h8]

theorem recFin_no (s : ByteArray) (r : Rcd) (h : recGood r = false) : recFin s r 0 = (rzero, 6) := by
  unfold recFin
  rw [if_neg (by simp), if_neg (by rw [h]; simp)]
theorem good_ent (kd : Int) (hk : kd = 1 ∨ kd = 2) (k : List UInt8) (d : Bool) (v : ByteArray) (h : entChk d v = 0) : recGood ⟨kd, k, d, v, zero32, 0⟩ = true := by
  unfold recGood
  rw [Bool.and_eq_true, recB_iff]
  rcases hk with rfl | rfl
  · exact ⟨by show (entChk d v == 0) = true; rw [h]; rfl, rfl⟩
  · exact ⟨by show (entChk d v == 0) = true; rw [h]; rfl, rfl⟩
theorem good_sum (kd : Int) (hk : kd = 3 ∨ kd = 4) (k : List UInt8) : recGood ⟨kd, zero32, false, ⟨#[]⟩, k, 0⟩ = true := by
  unfold recGood
  rw [Bool.and_eq_true, recB_iff]
  rcases hk with rfl | rfl
  · exact ⟨rfl, rfl⟩
  · exact ⟨rfl, rfl⟩
theorem good_n (n : Int) : recGood ⟨5, zero32, false, ⟨#[]⟩, zero32, n⟩ = (decide (0 ≤ n) && decide (n ≤ 1048576)) := by
  unfold recGood
  have : recB ⟨5, zero32, false, ⟨#[]⟩, zero32, n⟩ (recWant ⟨5, zero32, false, ⟨#[]⟩, zero32, n⟩).1 = true := (recB_iff _ _).2 rfl
  rw [this, Bool.and_true]
  rfl
theorem good_no (r : Rcd) (h1 : r.kind ≠ 1) (h2 : r.kind ≠ 2) (h3 : r.kind ≠ 3) (h4 : r.kind ≠ 4) (h5 : r.kind ≠ 5) : recGood r = false := by
  unfold recGood recWant
  rw [if_neg h1, if_neg h2, if_neg h3, if_neg h4, if_neg h5]
  rfl
theorem good_key_iff {r : Rcd} (hk : r.kind = 1 ∨ r.kind = 2) : recGood r = true ↔ entChk r.dead r.val = 0 ∧ r.sum = zero32 ∧ r.n = 0 := by
  unfold recGood
  rw [Bool.and_eq_true, recB_iff]
  unfold recWant
  obtain ⟨kd, k, d, v, s, n⟩ := r
  rcases hk with hk | hk <;> simp only at hk <;> subst hk <;> simp

theorem entGet_back (l : List UInt8) (hl : l ≠ []) :
    ((entGet (bs l)).2.2 = 0 ∧ entPut (entGet (bs l)).1 (entGet (bs l)).2.1 = bs l ∧ entChk (entGet (bs l)).1 (entGet (bs l)).2.1 = 0) ∨ ((entGet (bs l)).2.2 = 6 ∧ (entGet (bs l)).1 = false ∧ (entGet (bs l)).2.1 = ⟨#[]⟩ ∧ bs l ≠ bs [1]) := by
  unfold entGet
  rw [if_neg (by rw [bs_size]; exact fun h => hl (List.eq_nil_of_length_eq_zero h))]
  cases ho : one1 (bs l) with
  | true =>
    rw [if_pos rfl]
    by_cases hb : 65537 < (bs l).size
    · rw [if_pos hb]
      refine .inr ⟨rfl, rfl, rfl, fun h => ?_⟩
      rw [h, bs_size] at hb
      simp at hb
    · rw [if_neg hb]
      refine .inl ⟨rfl, ?_, ?_⟩
      · show (⟨#[1]⟩ : ByteArray) ++ (bs l).extract 1 (bs l).size = bs l
        exact one1_cat ho
      · unfold entChk
        rw [if_neg (by simp only [ByteArray.size_extract]; omega), if_neg (by simp)]
  | false =>
    rw [if_neg (by decide)]
    by_cases h0 : bs l = ⟨#[0]⟩
    · rw [if_pos h0]
      refine .inl ⟨rfl, ?_, rfl⟩
      rw [h0]
      rfl
    · rw [if_neg h0]
      refine .inr ⟨rfl, rfl, rfl, fun h => ?_⟩
      rw [h] at ho
      exact absurd ho (by decide)

theorem key32_bs (l : List UInt8) (h : l.length = 32) : key32 (bs l) = l := by
  unfold key32
  rw [bs_toList, bs_size, h]
  simp

theorem vnat_one (b : UInt8) : vnat [b] = b.toNat := by simp [vnat]

theorem numL_one (b : UInt8) : numL b.toNat 1 = [b] := by
  have hb : b.toNat < 256 := b.toNat_lt
  simp only [numL]
  rw [Nat.mod_eq_of_lt hb, UInt8.ofNat_toNat]

theorem numL_one' {b : UInt8} {n : Nat} (h : b.toNat = n) : numL n 1 = [b] := by rw [← h, numL_one]
theorem recGet_ref (s : ByteArray) : recGet s = refGet s := by
  obtain ⟨l, rfl⟩ := bs_of s
  unfold recGet recParse refGet
  simp only [bs_size, bs_toList, bs_extract]
  cases l with
  | nil => rfl
  | cons b l =>
    have e1 : numC (bs (b :: l)) 0 1 = (b.toNat, bs l, 0) := by
      have := numC_bs (b :: l) 1 (by omega) (by omega)
      rw [if_neg (by simp)] at this
      simpa [vnat_one] using this
    rw [e1]
    have e2 : (b :: l).length = l.length + 1 := rfl
    simp only [List.take_succ_cons, List.take_zero, List.drop_succ_cons, List.drop_zero, List.getD_cons_zero, e2, Nat.add_sub_cancel]
    rw [if_neg (show ¬(l.length + 1 = 0) by omega)]
    have e3 : takeC (bs l) 0 32 = _ := takeC_bs l 32
    rw [e3]
    by_cases g12 : b.toNat = 1 ∨ b.toNat = 2
    · rw [if_pos g12, if_pos g12]
      by_cases h33 : l.length < 32
      · rw [if_pos h33, if_pos (show l.length + 1 < 34 by omega)]
        simp only
        rw [takeC_err _ _ _ (by decide)]
        rfl
      · rw [if_neg h33]
        simp only
        by_cases h34 : l.length + 1 < 34
        · rw [if_pos h34]
          have hz : l.drop 32 = [] := List.drop_eq_nil_of_le (by omega)
          have e4 : takeC (bs []) 0 1 = (bs [], bs [], 5) := rfl
          rw [hz]
          show (recFin _ _ (takeC (bs []) 0 1).2.2) = _
          rw [e4]
          rfl
        · rw [if_neg h34]
          have hm : max (((bs (l.drop 32)).size : Int)) 1 = ((l.drop 32).length : Nat) := by
            rw [bs_size, List.length_drop]
            omega
          rw [hm, takeC_bs, if_neg (by omega), List.take_length]
          simp only
          have hne : l.drop 32 ≠ [] := fun h => by have := congrArg List.length h; simp at this; omega
          rw [show l.length + 1 - 33 = (l.drop 32).length by rw [List.length_drop]; omega, List.take_length, List.take_length, key32_bs _ (by simp; omega)]
          rcases entGet_back _ hne with ⟨hc, hp, hk⟩ | ⟨hc, hd, hv, hn⟩
          · rw [if_neg (by rw [hc]; simp)]
            unfold recFin
            rw [if_neg (by simp), if_pos]
            refine ⟨good_ent _ (by omega) _ _ _ hk, ?_⟩
            unfold recS
            simp only
            rw [hp]
            rcases g12 with g | g
            · rw [g, if_pos (by decide), numS_bs]
              show (bs _ ++ bs _) ++ bs _ = _
              rw [bs_append, bs_append, numL_one' g, List.append_assoc, List.take_append_drop]
              rfl
            · rw [g, if_neg (by decide), if_pos (by decide), numS_bs]
              show (bs _ ++ bs _) ++ bs _ = _
              rw [bs_append, bs_append, numL_one' g, List.append_assoc, List.take_append_drop]
              rfl
          · rw [if_pos (by rw [hc]; decide), hd, hv]
            unfold recFin
            rw [if_neg (by simp), if_neg]
            rintro ⟨_, h⟩
            apply hn
            unfold recS at h
            simp only at h
            have hl32 : (l.take 32).length = 32 := by simp; omega
            have e5 : entPut false ⟨#[]⟩ = bs [1] := rfl
            rw [e5] at h
            rcases g12 with g | g
            · rw [g, if_pos (by decide), numS_bs] at h
              have h' : (bs (numL 1 1) ++ bs (l.take 32)) ++ bs [1] = bs (b :: l) := h
              rw [bs_append, bs_append, numL_one' g] at h'
              have := congrArg (fun x => x.drop 33) (bs_inj h')
              simp only [List.singleton_append, List.cons_append, List.nil_append, List.drop_succ_cons] at this
              rw [List.drop_left' hl32] at this
              rw [← this]
            · rw [g, if_neg (by decide), if_pos (by decide), numS_bs] at h
              have h' : (bs (numL 2 1) ++ bs (l.take 32)) ++ bs [1] = bs (b :: l) := h
              rw [bs_append, bs_append, numL_one' g] at h'
              have := congrArg (fun x => x.drop 33) (bs_inj h')
              simp only [List.singleton_append, List.cons_append, List.nil_append, List.drop_succ_cons] at this
              rw [List.drop_left' hl32] at this
              rw [← this]
    · rw [if_neg g12, if_neg g12]
      by_cases g5 : b.toNat = 5
      · rw [if_pos g5, if_neg (by omega), if_pos g5]
        have e6 : numC (bs l) 0 4 = _ := numC_bs l 4 (by omega) (by omega)
        rw [e6]
        by_cases h4 : l.length < 4
        · rw [if_pos h4, if_pos (by omega)]
          rfl
        · rw [if_neg h4, if_neg (by omega)]
          simp only [wval_bs, List.take_take]
          rfl
      · rw [if_neg g5]
        by_cases g34 : b.toNat = 3 ∨ b.toNat = 4
        · rw [if_pos g34, if_pos g34]
          by_cases h33 : l.length < 32
          · rw [if_pos h33, if_pos (by omega)]
            rfl
          · rw [if_neg h33, if_neg (by omega), key32_bs _ (by simp; omega), List.take_length]
        · rw [if_neg g34, if_neg g34, if_neg g5]
          exact recFin_no _ _ (good_no _ (fun h => g12 (.inl (by simp only at h; omega))) (fun h => g12 (.inr (by simp only at h; omega))) (fun h => g34 (.inl (by simp only at h; omega))) (fun h => g34 (.inr (by simp only at h; omega))) (fun h => g5 (by simp only at h; omega)))
end Go.Proofs.Ythocjhiapngacaa
