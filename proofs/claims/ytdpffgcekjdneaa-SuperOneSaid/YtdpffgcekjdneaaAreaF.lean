/-
  Walks: the document's reading and appending.
-/
import Derived.Test.YtdpffgcekjdneaaAreaE
set_option linter.all false
namespace Go.Proofs.Ytdpffgcekjdneaa
open Go.RowKit

theorem r01_Low (a b : Int) (w : World) : Calls Try.prog 64 #[.int .i64 a, .int .i64 b] w fun e w' => e = .returned (.int .i64 (if a < b then a else b)) ∧ w = w' := by
  by_cases h : a < b
  · have e1 : decide (a < b) = true := decide_eq_true h
    rw [if_pos h]
    clear h
    go_enter Try.func64, Try.ntmps64
    go_wp2_with fail
    go_ret
    exact ⟨rfl, rfl⟩
  · have e1 : decide (a < b) = false := decide_eq_false h
    rw [if_neg h]
    clear h
    go_enter Try.func64, Try.ntmps64
    go_wp2_with fail
    go_ret
    exact ⟨rfl, rfl⟩

theorem cat_step (d : Dk) (f : Int) (k : Nat) (y : ByteArray) (h : (d.read (f + k)).1 = y) : (⟨(rdCat d f k).toArray⟩ : ByteArray) ++ y = ⟨(rdCat d f (k + 1)).toArray⟩ := by
  subst h
  apply ByteArray.ext
  show _ = (rdCat d f k ++ (d.read (f + k)).1.data.toList).toArray
  rw [ByteArray.data_append]
  apply Array.ext'
  simp
theorem cat_take (l : List UInt8) (n : Nat) (h : n ≤ l.length) : (⟨l.toArray⟩ : ByteArray).extract 0 n = ⟨(l.take n).toArray⟩ := by
  apply ByteArray.ext
  apply Array.ext'
  simp

section
variable {T : Nat → Prop} {B b1 b2 N : Nat} {w w' : World} {d d1 d2 : Dk}
set_option maxRecDepth 100000 in
set_option maxHeartbeats 800000 in
theorem br_ARead (h : Both T B w b1 b2 N d1 d2) (hN : N ≤ 99999) (a len : Int) (hc : d2.chk a len = 0) :
    Calls Try.prog 45 #[.pointer (some ⟨b2, 0, none⟩), .int .i64 a, .int .i64 len] w fun e w' => e = .returned (.string (d2.head (d2.first a) len.toNat)) ∧ w = w' := by
  obtain ⟨_, hok, hfull⟩ := h.sz
  obtain ⟨hd, ha, hcn, hfi, hl0, hl⟩ := chk_ok hc
  have hin := first_in ha hcn hfi
  have hnn : d2.n ≤ 65536 := hok.1
  obtain ⟨L, rfl⟩ : ∃ L : Nat, len = (L : Int) := ⟨len.toNat, by omega⟩
  rw [show ((L : Nat) : Int).toNat = L from by omega]
  have hm := sN_le (len := L) (c := d2.cnt) (by omega)
  have hmL := sN_ge L
  have hmlt : ∀ k, k < sN L → 128 * k < L := by unfold sN; intro k hk; omega
  have HL : Hid (∀ k, k ≤ sN L → (rdCat d2 (d2.first a) k).length = 128 * k) := hid (fun k hk => rdCat_length hok hfull hd (by omega) k (by omega))
  have HR : Hid (∀ k : Nat, k < sN L → ∃ y, d2.read (d2.first a + k) = (y, 0) ∧ y.size = 128) := hid (fun k hk => ⟨_, read_ok hd (by omega) (by omega), by
    have := read_size hok hfull hd (s := d2.first a + k) (by omega) (by omega)
    rw [read_ok hd (by omega) (by omega)] at this
    exact this⟩)
  unfold Dk.head
  generalize sN L = m at hm hmL HL HR hmlt ⊢
  have HM := hid hmlt
  obtain ⟨f, hf⟩ : ∃ f, d2.first a = f := ⟨_, rfl⟩
  rw [hf] at hfi hin HL HR ⊢
  have HC := hid (fun w (h : Both T B w b1 b2 N d1 d2) => br_Count h)
  obtain ⟨P, hP⟩ : ∃ P, a * (d2.cnt : Int) = P := ⟨_, rfl⟩
  rw [hP] at hfi
  generalize hcc : d2.cnt = c at hP HC hm hin hl
  have hP0 : 0 ≤ P := by omega
  have hP1 : P ≤ 65536 := by omega
  have hm3 : m ≤ 65536 := by omega
  have hLb : L ≤ 8388608 := by omega
  have H := hid h
  subst hfi
  clear hc hin hm hl h hd ha hcn hf hmlt hcc
  go_enter Try.func45, Try.ntmps45
  go_wp2_with fail
  go_loopg [7, 8, 9, 10] m (fun g s i _ _ wr => ∃ k : Nat, k + g = m ∧ i = .int .i64 k ∧ s = .string ⟨(rdCat d2 (2 + P) k).toArray⟩ ∧ w = wr)
  case atStart => exact ⟨0, by omega, rfl, rfl, rfl⟩
  case round =>
    obtain ⟨k, hk, rfl, rfl, rfl⟩ := hrel
    have Hk := hid hk
    have hsz : (⟨(rdCat d2 (2 + P) k).toArray⟩ : ByteArray).size = 128 * k := HL.out k (by omega)
    have Hcs := hid (cat_step d2 (2 + P) k)
    have Hct := hid (cat_take (rdCat d2 (2 + P) k) L)
    have Hln := hid (HL.out k (by omega))
    generalize hS : (⟨(rdCat d2 (2 + P) k).toArray⟩ : ByteArray) = S at hsz Hcs Hct ⊢
    clear hk hS
    by_cases hlt : k < m
    · have hlt2 := HM.out k hlt
      have e1 : decide (S.size < L) = true := decide_eq_true (by omega)
      obtain ⟨y, hy, hys⟩ := HR.out k hlt
      have Hy := hid hy
      have Hys := hid hys
      have hadd : ∀ w, (Op.stringOp .add S y).run Try.prog w = .ok (.string (S ++ y)) w := fun w => run_string_add_sum _ _ _ (by omega)
      have Hcs2 := hid (Hcs.out y (by rw [hy]))
      clear hy hys hlt2 hsz
      go_wp2_with fail
      refine (HC.out _ H.out).mono ?_
      rintro e w' ⟨rfl, rfl⟩
      go_wp2_with fail
      refine (br_Read H.out (by omega) (2 + P + k)).mono ?_
      rw [Hy.out]
      rintro e w' ⟨rfl, rfl⟩
      go_wp2_with fail
      go_roundg (gk - 1)
      case rel => exact ⟨k + 1, by have := Hk.out; omega, by go_num, by rw [Hcs2.out], rfl⟩
      case measure => have := Hk.out; omega
    · obtain rfl : k = m := by have := Hk.out; omega
      have e1 : decide (S.size < L) = false := decide_eq_false (by omega)
      have hL2 : L ≤ S.size := by omega
      have Hct2 := hid (Hct.out (by rw [Hln.out]; omega))
      clear hsz
      go_wp2_with fail
      go_ret
      exact ⟨by rw [Hct2.out]; rfl, rfl⟩
end
end Go.Proofs.Ytdpffgcekjdneaa
