/-
  Walks: entries read.
-/
import Derived.Test.YthocjhiapngacaaEntA
set_option linter.all false
namespace Go.Proofs.Ythocjhiapngacaa
open Go.RowKit

theorem index_str (r : ByteArray) (n : Nat) (h : n < r.size) (w : World) : (Instr.index 9 (.string r) (.int .i64 n)).run Try.prog w = .ok (.int .u8 (r[n]'h).toNat) w := by
  rw [run_index_string w _ _ _ _ Try.underlying9, dif_pos ⟨by omega, by omega⟩]
  rfl

/-- Does a text begin with the byte 1? -/
def one1 (s : ByteArray) : Bool := s.data[0]? == some 1
theorem one1_size {s : ByteArray} (h : one1 s = true) : 1 ≤ s.size := by
  unfold one1 at h
  rcases Nat.eq_zero_or_pos s.size with h0 | h0
  · have : s.data[0]? = none := by rw [Array.getElem?_eq_none]; show s.size ≤ 0; omega
    rw [this] at h
    simp at h
  · exact h0
theorem ext01 (s : ByteArray) (h : 1 ≤ s.size) : (s.extract 0 1).toList = [s[0]'(by omega)] := by
  rw [ByteArray.toList_eq]
  apply List.ext_getElem?
  intro j
  have hl : 0 < s.data.toList.length := h
  simp only [ByteArray.data_extract, Array.toList_extract, List.extract_eq_drop_take]
  match j with
  | 0 =>
    rw [List.getElem?_take_of_lt (by omega), List.getElem?_drop, List.getElem?_eq_getElem hl]
    rfl
  | j + 1 =>
    rw [List.getElem?_eq_none (by rw [List.length_take]; omega)]
    rfl
theorem one1_ext {s : ByteArray} (h : 1 ≤ s.size) : ((s.extract 0 1).toList == [(1 : UInt8)]) = one1 s := by
  rw [ext01 s h]
  unfold one1
  have : s.data[0]? = some (s[0]'(by omega)) := by
    rw [Array.getElem?_eq_getElem (by show 0 < s.size; omega)]
    rfl
  rw [this]
  simp

set_option maxRecDepth 100000 in
set_option maxHeartbeats 1000000 in
theorem has_Prefix (s : ByteArray) (w : World) (hs : s.size ≤ 140737488351232) :
    Calls Try.prog 62 #[.string s, .string ⟨#[1]⟩] w fun e w' => e = .returned (.bool (one1 s)) ∧ w = w' := by
  have hl1 : ((⟨#[1]⟩ : ByteArray).size : Int) = 1 := rfl
  by_cases h : 1 ≤ s.size
  · have e1 : decide ((1 : Int) ≤ (s.size : Int)) = true := decide_eq_true (by omega)
    have e2 : decide (1 ≤ s.size) = true := decide_eq_true h
    have h1 := one1_ext h
    rw [← h1]
    clear h1
    go_enter Try.func62, Try.ntmps62
    go_wp2
    go_ret
    exact ⟨rfl, rfl⟩
  · have hf : one1 s = false := by
      cases ho : one1 s with
      | false => rfl
      | true => exact absurd (one1_size ho) h
    rw [hf]
    have e1 : decide ((1 : Int) ≤ (s.size : Int)) = false := decide_eq_false (by omega)
    have e2 : decide (1 ≤ s.size) = false := decide_eq_false h
    have e3 : s.size < 1 := by omega
    clear hf
    go_enter Try.func62, Try.ntmps62
    go_wp2
    go_ret
    exact ⟨rfl, rfl⟩

set_option maxRecDepth 100000 in
set_option maxHeartbeats 1000000 in
theorem cut_Prefix (s : ByteArray) (w : World) (hs : s.size ≤ 140737488351232) :
    Calls Try.prog 58 #[.string s, .string ⟨#[1]⟩] w fun e w' => e = .returned (.tuple #[.string (if one1 s then s.extract 1 s.size else s), .bool (one1 s)]) ∧ w = w' := by
  have HI : Hid (∀ w, Calls Try.prog 61 #[.string s, .string ⟨#[1]⟩] w fun e w' => e = .returned (.tuple #[.string (if one1 s then s.extract 1 s.size else s), .bool (one1 s)]) ∧ w = w') := hid (fun w => by
    have HP := hid (fun w => has_Prefix s w hs)
    cases ho : one1 s with
    | true =>
      rw [ho] at HP
      have h1 := one1_size ho
      have hl1 : ((⟨#[1]⟩ : ByteArray).size : Int) = 1 := rfl
      show Calls _ _ _ _ fun e w' => e = .returned (.tuple #[.string (s.extract 1 s.size), .bool true]) ∧ w = w'
      clear ho
      go_enter Try.func61, Try.ntmps61
      go_wp2_with fail
      refine (HP.out _).mono ?_
      rintro e w1 ⟨rfl, rfl⟩
      go_wp2_with fail
      go_ret2
      exact ⟨rfl, rfl⟩
    | false =>
      rw [ho] at HP
      show Calls _ _ _ _ fun e w' => e = .returned (.tuple #[.string s, .bool false]) ∧ w = w'
      clear ho
      go_enter Try.func61, Try.ntmps61
      go_wp2_with fail
      refine (HP.out _).mono ?_
      rintro e w1 ⟨rfl, rfl⟩
      go_wp2_with fail
      go_ret2
      exact ⟨rfl, rfl⟩)
  generalize (if one1 s then s.extract 1 s.size else s) = x at HI ⊢
  go_enter Try.func58, Try.ntmps58
  go_wp2_with fail
  refine (HI.out _).mono ?_
  rintro e w1 ⟨rfl, rfl⟩
  go_wp2_with fail
  go_ret2
  exact ⟨rfl, rfl⟩

/-- The entry of bytes. -/
def entGet (s : ByteArray) : Bool × ByteArray × Int :=
  if s.size = 0 then (false, ⟨#[]⟩, 5) else if one1 s then (if 65537 < s.size then (false, ⟨#[]⟩, 6) else (false, s.extract 1 s.size, 0)) else if s = ⟨#[0]⟩ then (true, ⟨#[]⟩, 0) else (false, ⟨#[]⟩, 6)

theorem one1_cat {s : ByteArray} (h : one1 s = true) : (⟨#[1]⟩ : ByteArray) ++ s.extract 1 s.size = s := by
  have hs := one1_size h
  apply ByteArray.ext
  apply Array.ext'
  have hl : s.data.toList.length = s.size := rfl
  simp only [ByteArray.data_append, ByteArray.data_extract, Array.toList_append, Array.toList_extract, List.extract_eq_drop_take]
  rw [List.take_of_length_le (by rw [List.length_drop, hl]; omega)]
  cases hd : s.data.toList with
  | nil => rw [hd] at hl; simp at hl; omega
  | cons b l =>
    have : b = 1 := by
      unfold one1 at h
      have e : s.data[0]? = some b := by
        rw [← Array.getElem?_toList, hd]
        rfl
      rw [e] at h
      simpa using h
    subst this
    rfl
end Go.Proofs.Ythocjhiapngacaa
