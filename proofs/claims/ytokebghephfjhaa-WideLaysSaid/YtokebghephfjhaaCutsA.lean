/-
  Walks: the statement WideCuts.
-/
import Derived.Test.YtokebghephfjhaaWideH
import Derived.Deep.QuietTactic
import Derived.BigQuiet
set_option linter.all false
namespace Go.Proofs.Ytokebghephfjhaa
open Go.RowKit

/-- Pairs of whole numbers that lie in a slice, below block B. -/
def Prs (w : World) (B : Nat) (A : Option Addr) (ks : List (Int × Int)) : Prop :=
  ks = [] ∨ ∃ b off, A = some ⟨b, off, none⟩ ∧ b < B ∧ ∀ (i : Nat) (h : i < ks.length), w.cell? ⟨b, off + i * 2, none⟩ = some (.int .i64 ks[i].1) ∧ w.cell? ⟨b, off + i * 2 + 1, none⟩ = some (.int .i64 ks[i].2)

/-- What the statement keeps of a cut: the text from a place on, or that it is bad. -/
def cutSt (s : ByteArray) (at_ : Nat) (bad : Bool) : ByteArray × Int := if bad then (ByteArray.empty, 5) else (s.extract at_ s.size, 0)

theorem ext_ext (s : ByteArray) (p a b : Nat) (hp : p ≤ s.size) (hb : p + b ≤ s.size) : (s.extract p s.size).extract a b = s.extract (p + a) (p + b) := by
  apply ByteArray.ext
  have : s.data.size = s.size := rfl
  simp [ByteArray.extract_extract, Array.extract_extract]
  congr 1
  omega

theorem takeC_bad (n : Int) : takeC ByteArray.empty 5 n = (ByteArray.empty, ByteArray.empty, 5) := by
  unfold takeC; simp
theorem numC_bad (n : Int) : numC ByteArray.empty 5 n = (0, ByteArray.empty, 5) := by
  unfold numC; rw [takeC_bad]; simp [wval, vnat]
theorem textC_bad : textC ByteArray.empty 5 = (ByteArray.empty, ByteArray.empty, 5) := by
  unfold textC; rw [numC_bad, takeC_bad]

theorem ext_size (s : ByteArray) (p : Nat) (hp : p ≤ s.size) : (s.extract p s.size).size = s.size - p := by
  simp [ByteArray.size_extract]

theorem takeC_short (s : ByteArray) (p : Nat) (n : Int) (hp : p ≤ s.size) (h : n < 0 ∨ (s.size : Int) - p < n) : takeC (s.extract p s.size) 0 n = (ByteArray.empty, ByteArray.empty, 5) := by
  unfold takeC
  rw [if_neg (by simp), if_pos (by rw [ext_size s p hp]; omega)]
theorem takeC_ok (s : ByteArray) (p m : Nat) (h : p + m ≤ s.size) : takeC (s.extract p s.size) 0 m = (s.extract p (p + m), s.extract (p + m) s.size, 0) := by
  unfold takeC
  rw [if_neg (by simp), if_neg (by rw [ext_size s p (by omega)]; omega), ext_size s p (by omega), Int.toNat_natCast, ext_ext s p 0 m (by omega) h, ext_ext s p m (s.size - p) (by omega) (by omega), Nat.add_zero, Nat.add_sub_cancel' (by omega)]
theorem numC_low (s : ByteArray) (p : Nat) (n : Int) (hp : p ≤ s.size) (h : n < 1 ∨ 8 < n) : numC (s.extract p s.size) 0 n = (0, ByteArray.empty, 5) := by
  unfold numC; rw [if_pos h, takeC_short s p _ hp (by omega)]; simp [wval, vnat]
theorem numC_short (s : ByteArray) (p : Nat) (n : Int) (hp : p ≤ s.size) (h1 : 1 ≤ n) (h8 : n ≤ 8) (h : (s.size : Int) - p < n) : numC (s.extract p s.size) 0 n = (0, ByteArray.empty, 5) := by
  unfold numC; rw [if_neg (by omega), takeC_short s p _ hp (by omega)]; simp [wval, vnat]
theorem numC_ok (s : ByteArray) (p m : Nat) (h1 : 1 ≤ m) (h8 : m ≤ 8) (h : p + m ≤ s.size) : numC (s.extract p s.size) 0 m = (wval (s.extract p (p + m)), s.extract (p + m) s.size, 0) := by
  unfold numC; rw [if_neg (by omega), takeC_ok s p m h]
theorem textC_short (s : ByteArray) (p : Nat) (hp : p ≤ s.size) (h : (s.size : Int) - p < 4) : textC (s.extract p s.size) 0 = (ByteArray.empty, ByteArray.empty, 5) := by
  unfold textC; rw [numC_short s p 4 hp (by omega) (by omega) h, takeC_bad]
theorem textC_short2 (s : ByteArray) (p v : Nat) (hv : wval (s.extract p (p + 4)) = v) (hp : p + 4 ≤ s.size) (h : s.size - (p + 4) < v) : textC (s.extract p s.size) 0 = (ByteArray.empty, ByteArray.empty, 5) := by
  unfold textC; rw [show (4 : Int) = ((4 : Nat) : Int) from rfl, numC_ok s p 4 (by omega) (by omega) hp, takeC_short s (p + 4) _ hp (by rw [hv]; omega)]
theorem textC_ok (s : ByteArray) (p v : Nat) (hv : wval (s.extract p (p + 4)) = v) (hp : p + 4 + v ≤ s.size) :
    textC (s.extract p s.size) 0 = (s.extract (p + 4) (p + 4 + v), s.extract (p + 4 + v) s.size, 0) := by
  unfold textC; rw [show (4 : Int) = ((4 : Nat) : Int) from rfl, numC_ok s p 4 (by omega) (by omega) (by omega), hv, takeC_ok s (p + 4) _ hp]

theorem quiet_l {P : Program} {f : FuncId} {args : Array Value} {w : World} {n : Nat} {v : Value} (h : Calls P f args (w.drewN n) fun e w' => e = .returned v ∧ w.drewN n = w') :
    Calls P f args (w.drewN n) fun e w'' => e = .returned v ∧ ∃ m, w'' = w.drewN m :=
  h.mono fun _ _ ⟨he, hm⟩ => ⟨he, n, hm.symm⟩

set_option maxHeartbeats 4000000 in
set_option maxRecDepth 100000 in
theorem law_WideCuts (s : ByteArray) (A : Option Addr) (c : Nat) (ks : List (Int × Int)) (w : World) (hs : s.size ≤ maxLen) (hl : ks.length ≤ maxLen) (hA : Prs w w.heap.size A ks) :
    Calls Try.prog 4 #[.string s, .slice A ks.length c] w fun e w' => e = .returned (.bool true) ∧ Nul w w' := by
  unfold maxLen at hs hl
  by_cases h1 : 300 < s.size
  · go_enter Try.func4, Try.ntmps4
    go_wp2_with fail
    refine (awake01 w).mono ?_
    rintro e w1 ⟨rfl, hf1⟩
    go_wp2_with fail
    go_ret
    exact ⟨rfl, hf1⟩
  · go_enter Try.func4, Try.ntmps4
    go_wp2_with fail
    refine (wide_On2 s w).mono ?_
    rintro e w0 ⟨rfl, hc0, hf0⟩
    go_wp2_with fail
    go_loopg [6, 7, 8, 9, 10, 11, 12, 13] ks.length (fun g a b i _ _ _ _ _ wr => ∃ (k p : Nat) (bad : Bool), k + g = ks.length ∧ i = .int .i64 k ∧ a = .int .i64 p ∧ b = .bool bad ∧ p ≤ s.size ∧ Nul w wr ∧ CutAt wr w.heap.size (cutSt s p bad).1 (cutSt s p bad).2)
    case atStart => exact ⟨0, 0, false, by omega, rfl, rfl, rfl, by omega, hf0, by simpa [cutSt] using hc0⟩
    case round =>
      obtain ⟨k, p, bad, hk, rfl, rfl, rfl, hp, hf, hC⟩ := hrel
      have Hk := hid hk
      clear hk hc0 hf0
      by_cases hlt : k < ks.length
      · by_cases h60 : k < 60
        · rcases hA with rfl | ⟨b, off, rfl, hb, hcc⟩
          · simp at hlt
          obtain ⟨q0, q1⟩ := hcc k hlt
          have c0 : wr.cell? ⟨b, off + k * 2, none⟩ = some (.int .i64 ks[k].1) := by rw [hf.cell (p := ⟨b, off + k * 2, none⟩) hb (fun h => h)]; exact q0
          have c1 : wr.cell? ⟨b, off + k * 2 + 1, none⟩ = some (.int .i64 ks[k].2) := by rw [hf.cell (p := ⟨b, off + k * 2 + 1, none⟩) hb (fun h => h)]; exact q1
          clear hcc q0 q1
          generalize ks[k].1 = kd at c0
          generalize ks[k].2 = n at c1
          cases bad with
          | true =>
            replace hC : CutAt wr w.heap.size ByteArray.empty 5 := hC
            by_cases h0 : kd = 0
            · subst h0
              go_wp2_with fail
              go_quiet (fail)
              go_wp2_with fail
              refine (cut_Num _ _ _ _ _ (Blk.drewN hC _) (by simp)).mono ?_
              rw [numC_bad]
              rintro e w1 ⟨rfl, hC1, hf1⟩
              go_wp2_with fail
              refine (r01_Val _ w1 (by first | (simp only [ByteArray.size_extract]; omega) | (simp [ByteArray.size]; done))).mono ?_
              rintro e w2 ⟨rfl, rfl⟩
              go_wp2_with fail
              go_quiet (first | (go_at_call 20; exact quiet_l (cut_Rest _ _ _ _ (Blk.drewN hC1 _))) | (go_at_call 21; exact quiet_l (cut_Err _ _ _ _ (Blk.drewN hC1 _))))
              go_wp2_with fail
              go_roundg (gk - 1)
              case rel => exact ⟨k + 1, p, true, by have := Hk.out; omega, by go_num, by go_num, rfl, by omega, ((hf.drewN _).one hf1 (.inl (Nat.le_refl _))).drewN _, Blk.drewN hC1 _⟩
              case measure => have := Hk.out; omega
            · have h0e : (kd == 0) = false := by simpa using h0
              have h0n : (kd != 0) = true := by simpa using h0
              by_cases h2 : kd = 2
              · subst h2
                go_wp2_with fail
                go_quiet (fail)
                go_wp2_with fail
                refine (r01_Val _ _ (by first | (simp only [ByteArray.size_extract]; omega) | (simp [ByteArray.size]; done))).mono ?_
                rintro e w2 ⟨rfl, rfl⟩
                go_wp2_with fail
                refine (cut_Text _ _ _ _ (Blk.drewN hC _) (by simp)).mono ?_
                rw [textC_bad]
                rintro e w1 ⟨rfl, hC1, hf1⟩
                go_wp2_with fail
                go_quiet (first | (go_at_call 20; exact quiet_l (cut_Rest _ _ _ _ (Blk.drewN hC1 _))) | (go_at_call 21; exact quiet_l (cut_Err _ _ _ _ (Blk.drewN hC1 _))))
                go_wp2_with fail
                go_roundg (gk - 1)
                case rel => exact ⟨k + 1, p, true, by have := Hk.out; omega, by go_num, by go_num, rfl, by omega, ((hf.drewN _).one hf1 (.inl (Nat.le_refl _))).drewN _, Blk.drewN hC1 _⟩
                case measure => have := Hk.out; omega
              · have h2e : (kd == 2) = false := by simpa using h2
                have h2n : (kd != 2) = true := by simpa using h2
                clear h0 h2
                go_wp2_with fail
                go_quiet (fail)
                go_wp2_with fail
                refine (cut_Take _ _ _ _ _ (Blk.drewN hC _) (by simp)).mono ?_
                rw [takeC_bad]
                rintro e w1 ⟨rfl, hC1, hf1⟩
                go_wp2_with fail
                go_quiet (first | (go_at_call 20; exact quiet_l (cut_Rest _ _ _ _ (Blk.drewN hC1 _))) | (go_at_call 21; exact quiet_l (cut_Err _ _ _ _ (Blk.drewN hC1 _))))
                go_wp2_with fail
                go_roundg (gk - 1)
                case rel => exact ⟨k + 1, p, true, by have := Hk.out; omega, by go_num, by go_num, rfl, by omega, ((hf.drewN _).one hf1 (.inl (Nat.le_refl _))).drewN _, Blk.drewN hC1 _⟩
                case measure => have := Hk.out; omega
          | false =>
            replace hC : CutAt wr w.heap.size (s.extract p s.size) 0 := hC
            by_cases h0 : kd = 0
            · subst h0
              by_cases ha : n < 1
              · go_wp2_with fail
                go_quiet (fail)
                go_wp2_with fail
                refine (cut_Num _ _ _ _ _ (Blk.drewN hC _) (by rw [ext_size s p hp]; omega)).mono ?_
                rw [numC_low s p n hp (.inl ha)]
                rintro e w1 ⟨rfl, hC1, hf1⟩
                go_wp2_with fail
                refine (r01_Val _ w1 (by first | (simp only [ByteArray.size_extract]; omega) | (simp [ByteArray.size]; done))).mono ?_
                rintro e w2 ⟨rfl, rfl⟩
                go_wp2_with fail
                go_quiet (first | (go_at_call 20; exact quiet_l (cut_Rest _ _ _ _ (Blk.drewN hC1 _))) | (go_at_call 21; exact quiet_l (cut_Err _ _ _ _ (Blk.drewN hC1 _))))
                go_wp2_with fail
                go_roundg (gk - 1)
                case rel => exact ⟨k + 1, p, true, by have := Hk.out; omega, by go_num, by go_num, rfl, by omega, ((hf.drewN _).one hf1 (.inl (Nat.le_refl _))).drewN _, Blk.drewN hC1 _⟩
                case measure => have := Hk.out; omega
              · by_cases hb8 : 8 < n
                · go_wp2_with fail
                  go_quiet (fail)
                  go_wp2_with fail
                  refine (cut_Num _ _ _ _ _ (Blk.drewN hC _) (by rw [ext_size s p hp]; omega)).mono ?_
                  rw [numC_low s p n hp (.inr hb8)]
                  rintro e w1 ⟨rfl, hC1, hf1⟩
                  go_wp2_with fail
                  refine (r01_Val _ w1 (by first | (simp only [ByteArray.size_extract]; omega) | (simp [ByteArray.size]; done))).mono ?_
                  rintro e w2 ⟨rfl, rfl⟩
                  go_wp2_with fail
                  go_quiet (first | (go_at_call 20; exact quiet_l (cut_Rest _ _ _ _ (Blk.drewN hC1 _))) | (go_at_call 21; exact quiet_l (cut_Err _ _ _ _ (Blk.drewN hC1 _))))
                  go_wp2_with fail
                  go_roundg (gk - 1)
                  case rel => exact ⟨k + 1, p, true, by have := Hk.out; omega, by go_num, by go_num, rfl, by omega, ((hf.drewN _).one hf1 (.inl (Nat.le_refl _))).drewN _, Blk.drewN hC1 _⟩
                  case measure => have := Hk.out; omega
                · by_cases hbig : (s.size : Int) - p < n
                  · go_wp2_with fail
                    go_quiet (fail)
                    go_wp2_with fail
                    refine (cut_Num _ _ _ _ _ (Blk.drewN hC _) (by rw [ext_size s p hp]; omega)).mono ?_
                    rw [numC_short s p n hp (by omega) (by omega) hbig]
                    rintro e w1 ⟨rfl, hC1, hf1⟩
                    go_wp2_with fail
                    refine (r01_Val _ w1 (by first | (simp only [ByteArray.size_extract]; omega) | (simp [ByteArray.size]; done))).mono ?_
                    rintro e w2 ⟨rfl, rfl⟩
                    go_wp2_with fail
                    go_quiet (first | (go_at_call 20; exact quiet_l (cut_Rest _ _ _ _ (Blk.drewN hC1 _))) | (go_at_call 21; exact quiet_l (cut_Err _ _ _ _ (Blk.drewN hC1 _))))
                    go_wp2_with fail
                    go_roundg (gk - 1)
                    case rel => exact ⟨k + 1, p, true, by have := Hk.out; omega, by go_num, by go_num, rfl, by omega, ((hf.drewN _).one hf1 (.inl (Nat.le_refl _))).drewN _, Blk.drewN hC1 _⟩
                    case measure => have := Hk.out; omega
                  · obtain ⟨m, rfl⟩ := Int.eq_ofNat_of_zero_le (show 0 ≤ n by omega)
                    have hm : p + m ≤ s.size := by omega
                    have hd1 : decide ((m : Int) < 1) = false := decide_eq_false (by omega)
                    have hd2 : decide (8 < (m : Int)) = false := decide_eq_false (by omega)
                    have hd3 : decide ((m : Int) < 0) = false := decide_eq_false (by omega)
                    have hd4 : decide ((s.size : Int) - p < (m : Int)) = false := decide_eq_false (by omega)
                    go_wp2_with fail
                    go_quiet (fail)
                    go_wp2_with fail
                    refine (cut_Num _ _ _ _ _ (Blk.drewN hC _) (by rw [ext_size s p hp]; omega)).mono ?_
                    rw [numC_ok s p m (by omega) (by omega) hm]
                    rintro e w1 ⟨rfl, hC1, hf1⟩
                    go_wp2_with fail
                    refine (r01_Val _ w1 (by first | (simp only [ByteArray.size_extract]; omega) | (simp [ByteArray.size]; done))).mono ?_
                    rintro e w2 ⟨rfl, rfl⟩
                    go_wp2_with fail
                    go_quiet (first | (go_at_call 20; exact quiet_l (cut_Rest _ _ _ _ (Blk.drewN hC1 _))) | (go_at_call 21; exact quiet_l (cut_Err _ _ _ _ (Blk.drewN hC1 _))))
                    go_wp2_with fail
                    go_roundg (gk - 1)
                    case rel => exact ⟨k + 1, p + m, false, by have := Hk.out; omega, by go_num, by go_num, rfl, by omega, ((hf.drewN _).one hf1 (.inl (Nat.le_refl _))).drewN _, Blk.drewN hC1 _⟩
                    case measure => have := Hk.out; omega
            · have h0e : (kd == 0) = false := by simpa using h0
              have h0n : (kd != 0) = true := by simpa using h0
              by_cases h2 : kd = 2
              · subst h2
                by_cases h4 : (s.size : Int) - p < 4
                · go_wp2_with fail
                  go_quiet (fail)
                  go_wp2_with fail
                  refine (r01_Val _ _ (by first | (simp only [ByteArray.size_extract]; omega) | (simp [ByteArray.size]; done))).mono ?_
                  rintro e w2 ⟨rfl, rfl⟩
                  go_wp2_with fail
                  refine (cut_Text _ _ _ _ (Blk.drewN hC _) (by rw [ext_size s p hp]; omega)).mono ?_
                  rw [textC_short s p hp h4]
                  rintro e w1 ⟨rfl, hC1, hf1⟩
                  go_wp2_with fail
                  go_quiet (first | (go_at_call 20; exact quiet_l (cut_Rest _ _ _ _ (Blk.drewN hC1 _))) | (go_at_call 21; exact quiet_l (cut_Err _ _ _ _ (Blk.drewN hC1 _))))
                  go_wp2_with fail
                  go_roundg (gk - 1)
                  case rel => exact ⟨k + 1, p, true, by have := Hk.out; omega, by go_num, by go_num, rfl, by omega, ((hf.drewN _).one hf1 (.inl (Nat.le_refl _))).drewN _, Blk.drewN hC1 _⟩
                  case measure => have := Hk.out; omega
                · have hv := hid (rfl : wval (s.extract p (p + 4)) = wval (s.extract p (p + 4)))
                  have hv32 : wval (s.extract p (p + 4)) < 18446744073709551616 := wval_lt _
                  generalize hV : wval (s.extract p (p + 4)) = v at hv hv32
                  have HV := hid hV
                  clear hv hV
                  have hd1 : decide ((s.size : Int) - p < 4) = false := decide_eq_false h4
                  by_cases hm : s.size - (p + 4) < v
                  · have hd2 : decide ((s.size : Int) - (p + 4) < v) = true := decide_eq_true (by omega)
                    go_wp2_with fail
                    go_quiet (fail)
                    go_wp2_with fail
                    refine (r01_Val _ _ (by first | (simp only [ByteArray.size_extract]; omega) | (simp [ByteArray.size]; done))).mono ?_
                    rw [HV.out]
                    rintro e w2 ⟨rfl, rfl⟩
                    go_wp2_with fail
                    refine (cut_Text _ _ _ _ (Blk.drewN hC _) (by rw [ext_size s p hp]; omega)).mono ?_
                    rw [textC_short2 s p v HV.out (by omega) hm]
                    rintro e w1 ⟨rfl, hC1, hf1⟩
                    go_wp2_with fail
                    go_quiet (first | (go_at_call 20; exact quiet_l (cut_Rest _ _ _ _ (Blk.drewN hC1 _))) | (go_at_call 21; exact quiet_l (cut_Err _ _ _ _ (Blk.drewN hC1 _))))
                    go_wp2_with fail
                    go_roundg (gk - 1)
                    case rel => exact ⟨k + 1, p + 4, true, by have := Hk.out; omega, by go_num, by go_num, rfl, by omega, ((hf.drewN _).one hf1 (.inl (Nat.le_refl _))).drewN _, Blk.drewN hC1 _⟩
                    case measure => have := Hk.out; omega
                  · have hd2 : decide ((s.size : Int) - (p + 4) < v) = false := decide_eq_false (by omega)
                    have hv2 : p + 4 + v ≤ s.size := by omega
                    have hv3 : v ≤ 300 := by omega
                    go_wp2_with fail
                    go_quiet (fail)
                    go_wp2_with fail
                    refine (r01_Val _ _ (by first | (simp only [ByteArray.size_extract]; omega) | (simp [ByteArray.size]; done))).mono ?_
                    rw [HV.out]
                    rintro e w2 ⟨rfl, rfl⟩
                    go_wp2_with fail
                    refine (cut_Text _ _ _ _ (Blk.drewN hC _) (by rw [ext_size s p hp]; omega)).mono ?_
                    rw [textC_ok s p v HV.out (by omega)]
                    rintro e w1 ⟨rfl, hC1, hf1⟩
                    go_wp2_with fail
                    go_quiet (first | (go_at_call 20; exact quiet_l (cut_Rest _ _ _ _ (Blk.drewN hC1 _))) | (go_at_call 21; exact quiet_l (cut_Err _ _ _ _ (Blk.drewN hC1 _))))
                    go_wp2_with fail
                    go_roundg (gk - 1)
                    case rel => exact ⟨k + 1, p + 4 + v, false, by have := Hk.out; omega, by go_num, by go_num, rfl, by omega, ((hf.drewN _).one hf1 (.inl (Nat.le_refl _))).drewN _, Blk.drewN hC1 _⟩
                    case measure => have := Hk.out; omega
              · have h2e : (kd == 2) = false := by simpa using h2
                have h2n : (kd != 2) = true := by simpa using h2
                clear h0 h2
                by_cases ha : n < 0
                · go_wp2_with fail
                  go_quiet (fail)
                  go_wp2_with fail
                  refine (cut_Take _ _ _ _ _ (Blk.drewN hC _) (by rw [ext_size s p hp]; omega)).mono ?_
                  rw [takeC_short s p n hp (.inl ha)]
                  rintro e w1 ⟨rfl, hC1, hf1⟩
                  go_wp2_with fail
                  go_quiet (first | (go_at_call 20; exact quiet_l (cut_Rest _ _ _ _ (Blk.drewN hC1 _))) | (go_at_call 21; exact quiet_l (cut_Err _ _ _ _ (Blk.drewN hC1 _))))
                  go_wp2_with fail
                  go_roundg (gk - 1)
                  case rel => exact ⟨k + 1, p, true, by have := Hk.out; omega, by go_num, by go_num, rfl, by omega, ((hf.drewN _).one hf1 (.inl (Nat.le_refl _))).drewN _, Blk.drewN hC1 _⟩
                  case measure => have := Hk.out; omega
                · by_cases hbig : (s.size : Int) - p < n
                  · go_wp2_with fail
                    go_quiet (fail)
                    go_wp2_with fail
                    refine (cut_Take _ _ _ _ _ (Blk.drewN hC _) (by rw [ext_size s p hp]; omega)).mono ?_
                    rw [takeC_short s p n hp (.inr hbig)]
                    rintro e w1 ⟨rfl, hC1, hf1⟩
                    go_wp2_with fail
                    go_quiet (first | (go_at_call 20; exact quiet_l (cut_Rest _ _ _ _ (Blk.drewN hC1 _))) | (go_at_call 21; exact quiet_l (cut_Err _ _ _ _ (Blk.drewN hC1 _))))
                    go_wp2_with fail
                    go_roundg (gk - 1)
                    case rel => exact ⟨k + 1, p, true, by have := Hk.out; omega, by go_num, by go_num, rfl, by omega, ((hf.drewN _).one hf1 (.inl (Nat.le_refl _))).drewN _, Blk.drewN hC1 _⟩
                    case measure => have := Hk.out; omega
                  · obtain ⟨m, rfl⟩ := Int.eq_ofNat_of_zero_le (show 0 ≤ n by omega)
                    have hm : p + m ≤ s.size := by omega
                    have hd3 : decide ((m : Int) < 0) = false := decide_eq_false (by omega)
                    have hd4 : decide ((s.size : Int) - p < (m : Int)) = false := decide_eq_false (by omega)
                    go_wp2_with fail
                    go_quiet (fail)
                    go_wp2_with fail
                    refine (cut_Take _ _ _ _ _ (Blk.drewN hC _) (by rw [ext_size s p hp]; omega)).mono ?_
                    rw [takeC_ok s p m hm]
                    rintro e w1 ⟨rfl, hC1, hf1⟩
                    go_wp2_with fail
                    go_quiet (first | (go_at_call 20; exact quiet_l (cut_Rest _ _ _ _ (Blk.drewN hC1 _))) | (go_at_call 21; exact quiet_l (cut_Err _ _ _ _ (Blk.drewN hC1 _))))
                    go_wp2_with fail
                    go_roundg (gk - 1)
                    case rel => exact ⟨k + 1, p + m, false, by have := Hk.out; omega, by go_num, by go_num, rfl, by omega, ((hf.drewN _).one hf1 (.inl (Nat.le_refl _))).drewN _, Blk.drewN hC1 _⟩
                    case measure => have := Hk.out; omega
        · go_wp2_with fail
          refine (awake01 wr).mono ?_
          rintro e w1 ⟨rfl, hf1⟩
          go_wp2_with fail
          refine (cut_Num_nil 1 w1).mono ?_
          rintro e w2 ⟨rfl, rfl⟩
          go_wp2_with fail
          refine (cut_Text_nil w1).mono ?_
          rintro e w2 ⟨rfl, rfl⟩
          go_wp2_with fail
          refine (cut_Rest_nil w1).mono ?_
          rintro e w2 ⟨rfl, rfl⟩
          go_wp2_with fail
          refine (cut_Err_nil w1).mono ?_
          rintro e w2 ⟨rfl, rfl⟩
          go_wp2_with fail
          go_ret
          exact ⟨rfl, hf.nul hf1⟩
      · go_wp2_with fail
        refine (awake01 wr).mono ?_
        rintro e w1 ⟨rfl, hf1⟩
        go_wp2_with fail
        refine (cut_Num_nil 1 w1).mono ?_
        rintro e w2 ⟨rfl, rfl⟩
        go_wp2_with fail
        refine (cut_Text_nil w1).mono ?_
        rintro e w2 ⟨rfl, rfl⟩
        go_wp2_with fail
        refine (cut_Rest_nil w1).mono ?_
        rintro e w2 ⟨rfl, rfl⟩
        go_wp2_with fail
        refine (cut_Err_nil w1).mono ?_
        rintro e w2 ⟨rfl, rfl⟩
        go_wp2_with fail
        go_ret
        exact ⟨rfl, hf.nul hf1⟩
end Go.Proofs.Ytokebghephfjhaa
