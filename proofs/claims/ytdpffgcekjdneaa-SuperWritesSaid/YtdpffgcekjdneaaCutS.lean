/-
  Walks: the cut of layer wide.
-/
import Derived.Test.YtdpffgcekjdneaaWideC
set_option linter.all false
namespace Go.Proofs.Ytdpffgcekjdneaa
open Go.RowKit

/-- A cut in memory: what is left, and the error. -/
def CutAt (w : World) (b : Nat) (s : ByteArray) (e : Int) : Prop := Blk w b 109 [.string s, .int .i64 e]

/-- What 'Take' answers, what is left, and the error. -/
def takeC (s : ByteArray) (e n : Int) : ByteArray × ByteArray × Int :=
  if e ≠ 0 then (ByteArray.empty, s, e) else if n < 0 ∨ (s.size : Int) < n then (ByteArray.empty, ByteArray.empty, 5)
  else (s.extract 0 n.toNat, s.extract n.toNat s.size, 0)

theorem wide_On (s : ByteArray) (w : World) :
    Calls Try.prog 57 #[.string s] w fun e w' => e = .returned (.pointer (some ⟨w.heap.size, 0, none⟩)) ∧ w' = w.alloc (.cells #[.string s, .int .i64 0] 109) := by
  go_enter Try.func57, Try.ntmps57
  go_wp2
  go_ret
  exact ⟨rfl, rfl⟩

theorem wide_On2 (s : ByteArray) (w : World) :
    Calls Try.prog 57 #[.string s] w fun e w' => e = .returned (.pointer (some ⟨w.heap.size, 0, none⟩)) ∧ CutAt w' w.heap.size s 0 ∧ Nul w w' :=
  (wide_On s w).mono fun e w' ⟨h1, h2⟩ => ⟨h1, h2 ▸ Blk.new w _ [.string s, .int .i64 0], h2 ▸ (Frm.refl _ w).alloc _⟩

theorem cut_Take_bad (b : Nat) (s : ByteArray) (e n : Int) (w : World) (hc : CutAt w b s e) (he : e ≠ 0) :
    Calls Try.prog 58 #[.pointer (some ⟨b, 0, none⟩), .int .i64 n] w fun e w' => e = .returned (.string ByteArray.empty) ∧ w = w' := by
  have h0 : w.cell? ⟨b, 1, none⟩ = some (.int .i64 e) := hc.cell 1
  have he' : (e != 0) = true := by simpa using he
  clear he
  go_enter Try.func58, Try.ntmps58
  go_wp2
  go_ret
  exact ⟨rfl, rfl⟩

theorem cut_Take_short (b : Nat) (s : ByteArray) (n : Int) (w : World) (hc : CutAt w b s 0) (hn : n < 0 ∨ (s.size : Int) < n) :
    Calls Try.prog 58 #[.pointer (some ⟨b, 0, none⟩), .int .i64 n] w fun e w' => e = .returned (.string ByteArray.empty) ∧ CutAt w' b ByteArray.empty 5 ∧ One b w w' := by
  have h0 : w.cell? ⟨b, 0, none⟩ = some (.string s) := hc.cell 0
  have h1 : w.cell? ⟨b, 1, none⟩ = some (.int .i64 0) := hc.cell 1
  have f0 : w.frozen? ⟨b, 0, none⟩ = false := hc.frozen 0
  have f1 : w.frozen? ⟨b, 1, none⟩ = false := hc.frozen 1
  rcases hn with hn | hn
  · go_enter Try.func58, Try.ntmps58
    go_wp2
    go_ret
    exact ⟨rfl, (hc.put 0 _).put 1 _, ((One.refl _ _).put 0 _).put 1 _⟩
  · go_enter Try.func58, Try.ntmps58
    go_wp2
    go_ret
    exact ⟨rfl, (hc.put 0 _).put 1 _, ((One.refl _ _).put 0 _).put 1 _⟩

theorem cut_Take_ok (b : Nat) (s : ByteArray) (n : Nat) (w : World) (hc : CutAt w b s 0) (hn : n ≤ s.size) (hs : s.size ≤ 140737488351232) :
    Calls Try.prog 58 #[.pointer (some ⟨b, 0, none⟩), .int .i64 n] w fun e w' => e = .returned (.string (s.extract 0 n)) ∧ CutAt w' b (s.extract n s.size) 0 ∧ One b w w' := by
  have h0 : w.cell? ⟨b, 0, none⟩ = some (.string s) := hc.cell 0
  have h1 : w.cell? ⟨b, 1, none⟩ = some (.int .i64 0) := hc.cell 1
  have f0 : w.frozen? ⟨b, 0, none⟩ = false := hc.frozen 0
  have f1 : w.frozen? ⟨b, 1, none⟩ = false := hc.frozen 1
  go_enter Try.func58, Try.ntmps58
  go_wp2
  go_ret
  exact ⟨rfl, hc.put 0 _, (One.refl _ _).put 0 _⟩

theorem cut_Take (b : Nat) (s : ByteArray) (e n : Int) (w : World) (hc : CutAt w b s e) (hs : s.size ≤ 140737488351232) :
    Calls Try.prog 58 #[.pointer (some ⟨b, 0, none⟩), .int .i64 n] w fun r w' =>
      r = .returned (.string (takeC s e n).1) ∧ CutAt w' b (takeC s e n).2.1 (takeC s e n).2.2 ∧ One b w w' := by
  unfold takeC
  by_cases he : e = 0
  · subst he
    rw [if_neg (by simp)]
    by_cases hn : n < 0 ∨ (s.size : Int) < n
    · rw [if_pos hn]
      exact cut_Take_short b s n w hc hn
    · rw [if_neg hn]
      obtain ⟨m, rfl⟩ := Int.eq_ofNat_of_zero_le (show 0 ≤ n by omega)
      exact cut_Take_ok b s m w hc (by omega) hs
  · rw [if_pos he]
    exact (cut_Take_bad b s e n w hc he).mono fun r w' ⟨h1, h2⟩ => ⟨h1, h2 ▸ hc, h2 ▸ Frm.refl _ _⟩

theorem takeC_size (s : ByteArray) (e n : Int) : (takeC s e n).1.size ≤ s.size ∧ (takeC s e n).2.1.size ≤ s.size := by
  unfold takeC
  split
  · simp
  · split
    · simp
    · simp only [ByteArray.size_extract]; omega

/-- What 'Num' answers, what is left, and the error. -/
def numC (s : ByteArray) (e n : Int) : Nat × ByteArray × Int :=
  (wval (takeC s e (if n < 1 ∨ 8 < n then -1 else n)).1, (takeC s e (if n < 1 ∨ 8 < n then -1 else n)).2)

theorem cut_Num (b : Nat) (s : ByteArray) (e n : Int) (w : World) (hc : CutAt w b s e) (hs : s.size ≤ 140737488351232) :
    Calls Try.prog 60 #[.pointer (some ⟨b, 0, none⟩), .int .i64 n] w fun r w' =>
      r = .returned (.int .u64 (numC s e n).1) ∧ CutAt w' b (numC s e n).2.1 (numC s e n).2.2 ∧ One b w w' := by
  unfold numC
  by_cases h1 : n < 1
  · rw [if_pos (.inl h1)]
    go_enter Try.func60, Try.ntmps60
    go_wp2_with fail
    refine (cut_Take b s e (-1) w hc hs).mono ?_
    rintro r w1 ⟨rfl, hc1, hf1⟩
    go_wp2_with fail
    refine (wide_Val _ w1 (Nat.le_trans (takeC_size s e (-1)).1 hs)).mono ?_
    rintro r w2 ⟨rfl, rfl⟩
    go_wp2_with fail
    go_ret
    exact ⟨rfl, hc1, hf1⟩
  · by_cases h8 : 8 < n
    · rw [if_pos (.inr h8)]
      go_enter Try.func60, Try.ntmps60
      go_wp2_with fail
      refine (cut_Take b s e (-1) w hc hs).mono ?_
      rintro r w1 ⟨rfl, hc1, hf1⟩
      go_wp2_with fail
      refine (wide_Val _ w1 (Nat.le_trans (takeC_size s e (-1)).1 hs)).mono ?_
      rintro r w2 ⟨rfl, rfl⟩
      go_wp2_with fail
      go_ret
      exact ⟨rfl, hc1, hf1⟩
    · rw [if_neg (by omega)]
      go_enter Try.func60, Try.ntmps60
      go_wp2_with fail
      refine (cut_Take b s e n w hc hs).mono ?_
      rintro r w1 ⟨rfl, hc1, hf1⟩
      go_wp2_with fail
      refine (wide_Val _ w1 (Nat.le_trans (takeC_size s e n).1 hs)).mono ?_
      rintro r w2 ⟨rfl, rfl⟩
      go_wp2_with fail
      go_ret
      exact ⟨rfl, hc1, hf1⟩

theorem numC_size (s : ByteArray) (e n : Int) : (numC s e n).2.1.size ≤ s.size := (takeC_size s e _).2
end Go.Proofs.Ytdpffgcekjdneaa
