/-
  Walks: the document's disk: a sector's bytes, a place's bit; the disk in memory.
-/
import Derived.Test.YtdpffgcekjdneaaAwakeD
set_option linter.all false
namespace Go.Proofs.Ytdpffgcekjdneaa
open Go.RowKit

theorem zeroS_succ (k : Nat) : zeroS (k + 1) = zeroS k ++ ⟨#[0]⟩ := by
  apply ByteArray.ext
  apply Array.toList_inj.1
  simp [zeroS, List.replicate_succ']

set_option maxRecDepth 100000 in
set_option maxHeartbeats 400000 in
theorem ref_Full (s : ByteArray) (w : World) :
    Calls Try.prog 15 #[.string s] w fun e w' => e = .returned (.string (fullS s)) ∧ w = w' := by
  obtain ⟨N, hN⟩ : ∃ N, N = 128 - s.size := ⟨_, rfl⟩
  have HF : Hid (fullS s = s ++ zeroS N) := hid (by rw [hN]; rfl)
  have HN := hid hN
  clear hN
  go_enter Try.func15, Try.ntmps15
  go_wp2_with fail
  go_loopg [0] N (fun m x wr => ∃ (k : Nat) (y : ByteArray), k + m = N ∧ x = .string y ∧ Hid (y = s ++ zeroS k) ∧ y.size = s.size + k ∧ wr = w)
  case atStart => exact ⟨0, s, by omega, rfl, hid (by have : zeroS 0 = ByteArray.empty := rfl; rw [this]; simp), by omega, rfl⟩
  case round =>
    obtain ⟨k, y, hk, rfl, hy, hs, rfl⟩ := hrel
    have Hk := hid hk
    have Hs := hid hs
    by_cases hlt : k < N
    · have hd : decide ((y.size : Int) < 128) = true := decide_eq_true (by have := HN.out; omega)
      have hadd : ∀ w : World, (Op.stringOp .add y ⟨#[0]⟩).run Try.prog w = .ok (.string (y ++ ⟨#[0]⟩)) w := fun w => run_string_add_sum w y ⟨#[0]⟩ (by
        have e : (⟨#[0]⟩ : ByteArray).size = 1 := rfl
        have := HN.out
        omega)
      clear hk hs
      go_wp2_with fail
      go_roundg (gk - 1)
      case rel =>
        refine ⟨k + 1, _, by have := Hk.out; omega, rfl, hid ?_, ?_, rfl⟩
        · rw [hy.out, zeroS_succ, ByteArray.append_assoc]
        · rw [ByteArray.size_append]
          have := Hs.out
          have e : (⟨#[0]⟩ : ByteArray).size = 1 := rfl
          omega
      case measure => have := Hk.out; omega
    · obtain rfl : k = N := by omega
      have hd : decide ((y.size : Int) < 128) = false := decide_eq_false (by have := HN.out; omega)
      clear hk hs
      go_wp2_with fail
      go_ret
      rw [HF.out, hy.out]
      exact ⟨rfl, rfl⟩

theorem half_pow (x k : Nat) : x / 2 ^ k / 2 = x / 2 ^ (k + 1) := by rw [Nat.div_div_eq_div_mul, Nat.pow_succ]

set_option maxRecDepth 100000 in
set_option maxHeartbeats 400000 in
theorem ref_Bit (i c : Nat) (m : List UInt8) (S : Nat → Prop) (B : Option Addr) (w : World) (hB : BytesAt w S B m) (hi : i ≤ 200000) (hm : m.length ≤ 100000) :
    Calls Try.prog 69 #[.slice B m.length c, .int .i64 i] w fun e w' => e = .returned (.bool (mbit m i)) ∧ w = w' := by
  rcases hB with rfl | ⟨b, off, rfl, hS, hc⟩
  · go_enter Try.func69, Try.ntmps69
    go_wp2_with fail
    go_ret
    exact ⟨rfl, rfl⟩
  · by_cases h0 : m.length = 0
    · have : m = [] := List.eq_nil_of_length_eq_zero h0
      subst this
      go_enter Try.func69, Try.ntmps69
      go_wp2_with fail
      go_ret
      exact ⟨rfl, rfl⟩
    · have hpos : 0 < m.length := by omega
      have hj : i / 8 % m.length < m.length := Nat.mod_lt _ hpos
      have hcj := hc _ hj
      clear hc
      obtain ⟨q, hq⟩ : ∃ q, q = i / 8 := ⟨_, rfl⟩
      obtain ⟨r, hr⟩ : ∃ r, r = i / 8 % m.length := ⟨_, rfl⟩
      obtain ⟨u, hu⟩ : ∃ u, u = i % 8 := ⟨_, rfl⟩
      have e1 : IntKind.i64.wrap ((i : Int) / 8) = (q : Int) := by rw [IntWalk.i64_in _ (by omega)]; omega
      have e2 : ((q : Int)).tmod (m.length : Int) = (r : Int) := by
        rw [Int.tmod_eq_emod_of_nonneg (by omega), hr, hq]; simp
      have e3 : (i : Int) % 8 = (u : Int) := by omega
      have hr1 : (r : Int) < m.length := by omega
      have hr0 : r < m.length := by omega
      have hbit : mbit m i = decide ((m[r]'hr0).toNat / 2 ^ u % 2 = 1) := by
        subst hr hu
        unfold mbit
        have hmne : m ≠ [] := by rintro rfl; simp at hpos
        simp [hmne, List.getD, hj]
      rw [hbit]
      have hcj' : w.cell? ⟨b, off + r, none⟩ = some (.int .u8 (m[r]'hr0).toNat) := by subst hr; exact hcj
      have hx : (m[r]'hr0).toNat < 256 := UInt8.toNat_lt _
      have hu8 : u < 8 := by omega
      clear hcj hbit hj
      generalize (m[r]'hr0).toNat = x at hcj' hx
      have Hq := hid hq
      have Hr := hid hr
      have Hu := hid hu
      have Hx := hid hx
      clear hq hr hu hx
      have hne : ¬ (m.length : Int) = 0 := by omega
      go_enter Try.func69, Try.ntmps69
      go_wp2_with fail
      go_loopg [5, 6] u (fun n c i wr => ∃ (k y : Nat), k + n = u ∧ i = .int .i64 k ∧ c = .int .u8 y ∧ Hid (y = x / 2 ^ k) ∧ y < 256 ∧ wr = w)
      case atStart => exact ⟨0, x, by omega, rfl, rfl, hid (by simp), Hx.out, rfl⟩
      case round =>
        obtain ⟨k, y, hk, rfl, rfl, hy, hy2, rfl⟩ := hrel
        have Hk := hid hk
        by_cases hlt : k < u
        · clear hk
          have e4 : IntKind.u8.wrap ((y : Int) / 2) = ((y / 2 : Nat) : Int) := by
            rw [IntWalk.u8_in _ (by omega)]; omega
          have hy3 : y / 2 < 256 := by omega
          go_wp2_with fail
          go_roundg (gk - 1)
          case rel =>
            exact ⟨k + 1, y / 2, by have := Hk.out; omega, by go_num, rfl, hid (by rw [hy.out, half_pow]), hy3, rfl⟩
          case measure => have := Hk.out; omega
        · obtain rfl : k = u := by omega
          go_wp2_with fail
          go_ret
          refine ⟨ret_bool ?_, rfl⟩
          rw [← hy.out, Bool.eq_iff_iff]
          simp
          omega
end Go.Proofs.Ytdpffgcekjdneaa
