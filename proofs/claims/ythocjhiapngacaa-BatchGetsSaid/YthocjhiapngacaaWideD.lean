/-
  Walks: the cut of layer wide.
-/
import Derived.Test.YthocjhiapngacaaWideC
set_option linter.all false
namespace Go.Proofs.Ythocjhiapngacaa
open Go.RowKit

/-- A cut in memory: what is left, and the error. -/
def CutAt (w : World) (b : Nat) (s : ByteArray) (e : Int) : Prop := Blk w b 88 [.string s, .int .i64 e]

/-- What 'Take' answers, what is left, and the error. -/
def takeC (s : ByteArray) (e n : Int) : ByteArray × ByteArray × Int :=
  if e ≠ 0 then (ByteArray.empty, s, e) else if n < 0 ∨ (s.size : Int) < n then (ByteArray.empty, ByteArray.empty, 5)
  else (s.extract 0 n.toNat, s.extract n.toNat s.size, 0)

set_option maxHeartbeats 400000 in
theorem wide_On (s : ByteArray) (w : World) :
    Calls Try.prog 38 #[.string s] w fun e w' => e = .returned (.pointer (some ⟨w.heap.size, 0, none⟩)) ∧ w' = w.alloc (.cells #[.string s, .int .i64 0] 88) := by
  go_enter Try.func38, Try.ntmps38
  go_wp2
  go_ret
  exact ⟨rfl, rfl⟩

theorem wide_On2 (s : ByteArray) (w : World) :
    Calls Try.prog 38 #[.string s] w fun e w' => e = .returned (.pointer (some ⟨w.heap.size, 0, none⟩)) ∧ CutAt w' w.heap.size s 0 ∧ Nul w w' :=
  (wide_On s w).mono fun e w' ⟨h1, h2⟩ => ⟨h1, h2 ▸ Blk.new w _ [.string s, .int .i64 0], h2 ▸ (Frm.refl _ w).alloc _⟩

set_option maxHeartbeats 400000 in
theorem cut_Rest (b : Nat) (s : ByteArray) (e : Int) (w : World) (hc : CutAt w b s e) :
    Calls Try.prog 43 #[.pointer (some ⟨b, 0, none⟩)] w fun e w' => e = .returned (.string s) ∧ w = w' := by
  have h0 : w.cell? ⟨b, 0, none⟩ = some (.string s) := hc.cell 0
  go_enter Try.func43, Try.ntmps43
  go_wp2
  go_ret
  exact ⟨rfl, rfl⟩

set_option maxHeartbeats 400000 in
theorem cut_Rest_nil (w : World) :
    Calls Try.prog 43 #[.pointer none] w fun e w' => e = .returned (.string ByteArray.empty) ∧ w = w' := by
  go_enter Try.func43, Try.ntmps43
  go_wp2
  go_ret
  exact ⟨rfl, rfl⟩

set_option maxHeartbeats 400000 in
theorem cut_Err (b : Nat) (s : ByteArray) (e : Int) (w : World) (hc : CutAt w b s e) :
    Calls Try.prog 44 #[.pointer (some ⟨b, 0, none⟩)] w fun r w' => r = .returned (.int .i64 e) ∧ w = w' := by
  have h0 : w.cell? ⟨b, 1, none⟩ = some (.int .i64 e) := hc.cell 1
  go_enter Try.func44, Try.ntmps44
  go_wp2
  go_ret
  exact ⟨rfl, rfl⟩

set_option maxHeartbeats 400000 in
theorem cut_Err_nil (w : World) :
    Calls Try.prog 44 #[.pointer none] w fun e w' => e = .returned (.int .i64 1) ∧ w = w' := by
  go_enter Try.func44, Try.ntmps44
  go_wp2
  go_ret
  exact ⟨rfl, rfl⟩

set_option maxHeartbeats 400000 in
theorem cut_Take_nil (n : Int) (w : World) :
    Calls Try.prog 41 #[.pointer none, .int .i64 n] w fun e w' => e = .returned (.string ByteArray.empty) ∧ w = w' := by
  go_enter Try.func41, Try.ntmps41
  go_wp2
  go_ret
  exact ⟨rfl, rfl⟩

set_option maxHeartbeats 400000 in
theorem cut_Take_bad (b : Nat) (s : ByteArray) (e n : Int) (w : World) (hc : CutAt w b s e) (he : e ≠ 0) :
    Calls Try.prog 41 #[.pointer (some ⟨b, 0, none⟩), .int .i64 n] w fun e w' => e = .returned (.string ByteArray.empty) ∧ w = w' := by
  have h0 : w.cell? ⟨b, 1, none⟩ = some (.int .i64 e) := hc.cell 1
  have he' : (e != 0) = true := by simpa using he
  clear he
  go_enter Try.func41, Try.ntmps41
  go_wp2
  go_ret
  exact ⟨rfl, rfl⟩

set_option maxHeartbeats 400000 in
theorem cut_Take_short (b : Nat) (s : ByteArray) (n : Int) (w : World) (hc : CutAt w b s 0) (hn : n < 0 ∨ (s.size : Int) < n) :
    Calls Try.prog 41 #[.pointer (some ⟨b, 0, none⟩), .int .i64 n] w fun e w' => e = .returned (.string ByteArray.empty) ∧ CutAt w' b ByteArray.empty 5 ∧ One b w w' := by
  have h0 : w.cell? ⟨b, 0, none⟩ = some (.string s) := hc.cell 0
  have h1 : w.cell? ⟨b, 1, none⟩ = some (.int .i64 0) := hc.cell 1
  have f0 : w.frozen? ⟨b, 0, none⟩ = false := hc.frozen 0
  have f1 : w.frozen? ⟨b, 1, none⟩ = false := hc.frozen 1
  rcases hn with hn | hn
  · go_enter Try.func41, Try.ntmps41
    go_wp2
    go_ret
    exact ⟨rfl, (hc.put 0 _).put 1 _, ((One.refl _ _).put 0 _).put 1 _⟩
  · go_enter Try.func41, Try.ntmps41
    go_wp2
    go_ret
    exact ⟨rfl, (hc.put 0 _).put 1 _, ((One.refl _ _).put 0 _).put 1 _⟩

set_option maxHeartbeats 400000 in
theorem cut_Take_ok (b : Nat) (s : ByteArray) (n : Nat) (w : World) (hc : CutAt w b s 0) (hn : n ≤ s.size) (hs : s.size ≤ 140737488351232) :
    Calls Try.prog 41 #[.pointer (some ⟨b, 0, none⟩), .int .i64 n] w fun e w' => e = .returned (.string (s.extract 0 n)) ∧ CutAt w' b (s.extract n s.size) 0 ∧ One b w w' := by
  have h0 : w.cell? ⟨b, 0, none⟩ = some (.string s) := hc.cell 0
  have h1 : w.cell? ⟨b, 1, none⟩ = some (.int .i64 0) := hc.cell 1
  have f0 : w.frozen? ⟨b, 0, none⟩ = false := hc.frozen 0
  have f1 : w.frozen? ⟨b, 1, none⟩ = false := hc.frozen 1
  go_enter Try.func41, Try.ntmps41
  go_wp2
  go_ret
  exact ⟨rfl, hc.put 0 _, (One.refl _ _).put 0 _⟩

theorem cut_Take (b : Nat) (s : ByteArray) (e n : Int) (w : World) (hc : CutAt w b s e) (hs : s.size ≤ 140737488351232) :
    Calls Try.prog 41 #[.pointer (some ⟨b, 0, none⟩), .int .i64 n] w fun r w' =>
      r = .returned (.string (takeC s e n).1) ∧ CutAt w' b (takeC s e n).2.1 (takeC s e n).2.2 ∧ One b w w' := by
  unfold takeC
  by_cases he : e = 0
  · subst he
    rw [if_neg (by simp)]
    by_cases hn : n < 0 ∨ (s.size : Int) < n
    · rw [if_pos hn]
      exact cut_Take_short b s n w hc hn
    · rw [if_neg hn]
      obtain ⟨m, rfl⟩ := Int.eq_ofNat_of_zero_le (show 0 ≤ n by omega)
      exact cut_Take_ok b s m w hc (by omega) hs
  · rw [if_pos he]
    exact (cut_Take_bad b s e n w hc he).mono fun r w' ⟨h1, h2⟩ => ⟨h1, h2 ▸ hc, h2 ▸ Frm.refl _ _⟩

theorem takeC_size (s : ByteArray) (e n : Int) : (takeC s e n).1.size ≤ s.size ∧ (takeC s e n).2.1.size ≤ s.size := by
  unfold takeC
  split
  · simp
  · split
    · simp
    · simp only [ByteArray.size_extract]; omega

/-- What 'Num' answers, what is left, and the error. -/
def numC (s : ByteArray) (e n : Int) : Nat × ByteArray × Int :=
  (wval (takeC s e (if n < 1 ∨ 8 < n then -1 else n)).1, (takeC s e (if n < 1 ∨ 8 < n then -1 else n)).2)

set_option maxHeartbeats 400000 in
theorem cut_Num (b : Nat) (s : ByteArray) (e n : Int) (w : World) (hc : CutAt w b s e) (hs : s.size ≤ 140737488351232) :
    Calls Try.prog 39 #[.pointer (some ⟨b, 0, none⟩), .int .i64 n] w fun r w' =>
      r = .returned (.int .u64 (numC s e n).1) ∧ CutAt w' b (numC s e n).2.1 (numC s e n).2.2 ∧ One b w w' := by
  unfold numC
  by_cases h1 : n < 1
  · rw [if_pos (.inl h1)]
    go_enter Try.func39, Try.ntmps39
    go_wp2_with fail
    refine (cut_Take b s e (-1) w hc hs).mono ?_
    rintro r w1 ⟨rfl, hc1, hf1⟩
    go_wp2_with fail
    refine (wide_Val _ w1 (Nat.le_trans (takeC_size s e (-1)).1 hs)).mono ?_
    rintro r w2 ⟨rfl, rfl⟩
    go_wp2_with fail
    go_ret
    exact ⟨rfl, hc1, hf1⟩
  · by_cases h8 : 8 < n
    · rw [if_pos (.inr h8)]
      go_enter Try.func39, Try.ntmps39
      go_wp2_with fail
      refine (cut_Take b s e (-1) w hc hs).mono ?_
      rintro r w1 ⟨rfl, hc1, hf1⟩
      go_wp2_with fail
      refine (wide_Val _ w1 (Nat.le_trans (takeC_size s e (-1)).1 hs)).mono ?_
      rintro r w2 ⟨rfl, rfl⟩
      go_wp2_with fail
      go_ret
      exact ⟨rfl, hc1, hf1⟩
    · rw [if_neg (by omega)]
      go_enter Try.func39, Try.ntmps39
      go_wp2_with fail
      refine (cut_Take b s e n w hc hs).mono ?_
      rintro r w1 ⟨rfl, hc1, hf1⟩
      go_wp2_with fail
      refine (wide_Val _ w1 (Nat.le_trans (takeC_size s e n).1 hs)).mono ?_
      rintro r w2 ⟨rfl, rfl⟩
      go_wp2_with fail
      go_ret
      exact ⟨rfl, hc1, hf1⟩

set_option maxHeartbeats 400000 in
theorem cut_Num_nil (n : Int) (w : World) :
    Calls Try.prog 39 #[.pointer none, .int .i64 n] w fun r w' => r = .returned (.int .u64 0) ∧ w = w' := by
  go_enter Try.func39, Try.ntmps39
  go_wp2_with (go_at_call 41; refine (cut_Take_nil _ _).mono ?_; rintro r w1 ⟨rfl, rfl⟩)
  all_goals
    refine (wide_Val ByteArray.empty w (by simp)).mono ?_
    rintro r w2 ⟨rfl, rfl⟩
    go_wp2_with fail
    go_ret
    exact ⟨rfl, rfl⟩

theorem numC_size (s : ByteArray) (e n : Int) : (numC s e n).2.1.size ≤ s.size := (takeC_size s e _).2

/-- What 'Text' answers, what is left, and the error. -/
def textC (s : ByteArray) (e : Int) : ByteArray × ByteArray × Int :=
  takeC (numC s e 4).2.1 (numC s e 4).2.2 (numC s e 4).1

theorem textC_size (s : ByteArray) (e : Int) : (textC s e).1.size ≤ s.size ∧ (textC s e).2.1.size ≤ s.size := by
  have h1 := takeC_size (numC s e 4).2.1 (numC s e 4).2.2 (numC s e 4).1
  have h2 := numC_size s e 4
  exact ⟨Nat.le_trans h1.1 h2, Nat.le_trans h1.2 h2⟩

theorem numC4_lt (s : ByteArray) (e : Int) : (numC s e 4).1 < 4294967296 := by
  have h : (numC s e 4).1 = wval (takeC s e 4).1 := rfl
  have hz : (takeC s e 4).1.size ≤ 4 := by
    unfold takeC
    split
    · simp
    · split
      · simp
      · simp only [ByteArray.size_extract]; omega
  rw [h]
  have hl := vnat_lt ((takeC s e 4).1.data.toList.take 8)
  have hl' : ((takeC s e 4).1.data.toList.take 8).length ≤ 4 := by
    have : (takeC s e 4).1.data.toList.length = (takeC s e 4).1.size := by simp
    simp only [List.length_take]; omega
  have := Nat.pow_le_pow_right (n := 256) (by omega) hl'
  unfold wval
  omega

set_option maxHeartbeats 400000 in
theorem cut_Text (b : Nat) (s : ByteArray) (e : Int) (w : World) (hc : CutAt w b s e) (hs : s.size ≤ 140737488351232) :
    Calls Try.prog 60 #[.pointer (some ⟨b, 0, none⟩)] w fun r w' =>
      r = .returned (.string (textC s e).1) ∧ CutAt w' b (textC s e).2.1 (textC s e).2.2 ∧ One b w w' := by
  have hlt := numC4_lt s e
  have hz := numC_size s e 4
  go_enter Try.func60, Try.ntmps60
  go_wp2_with fail
  refine (cut_Num b s e 4 w hc hs).mono ?_
  rintro r w1 ⟨rfl, hc1, hf1⟩
  go_wp2_with fail
  refine (cut_Take b _ _ _ w1 hc1 (Nat.le_trans hz hs)).mono ?_
  rintro r w2 ⟨rfl, hc2, hf2⟩
  go_wp2_with fail
  go_ret
  exact ⟨rfl, hc2, hf1.trans hf2⟩

set_option maxHeartbeats 400000 in
theorem cut_Text_nil (w : World) :
    Calls Try.prog 60 #[.pointer none] w fun r w' => r = .returned (.string ByteArray.empty) ∧ w = w' := by
  go_enter Try.func60, Try.ntmps60
  go_wp2_with fail
  refine (cut_Num_nil 4 w).mono ?_
  rintro r w1 ⟨rfl, rfl⟩
  go_wp2_with fail
  refine (cut_Take_nil _ w).mono ?_
  rintro r w2 ⟨rfl, rfl⟩
  go_wp2_with fail
  go_ret
  exact ⟨rfl, rfl⟩
end Go.Proofs.Ythocjhiapngacaa
