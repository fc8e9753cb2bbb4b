/-
  Walks: the awakening of layer 1.
-/
import Derived.Test.YtokebghephfjhaaWideF
set_option linter.all false
namespace Go.Proofs.Ytokebghephfjhaa
open Go.RowKit

theorem aw1 : numS 258 2 = ⟨#[2, 1]⟩ := by kernel_rfl
theorem aw2 : textsS [⟨#[97, 98]⟩] = ⟨#[2, 0, 0, 0, 97, 98]⟩ := by kernel_rfl
theorem aw3 : numC ⟨#[2, 1, 2, 0, 0, 0, 97, 98, 120]⟩ 0 2 = (258, ⟨#[2, 0, 0, 0, 97, 98, 120]⟩, 0) := by kernel_rfl
theorem aw4 : textC ⟨#[2, 0, 0, 0, 97, 98, 120]⟩ 0 = (⟨#[97, 98]⟩, ⟨#[120]⟩, 0) := by kernel_rfl
theorem aw6 : ((⟨#[2, 1]⟩ : ByteArray) ++ ⟨#[2, 0, 0, 0, 97, 98]⟩ ++ ⟨#[120]⟩) = ⟨#[2, 1, 2, 0, 0, 0, 97, 98, 120]⟩ := by kernel_rfl
theorem aw5 : wval ⟨#[2, 1]⟩ = 258 := by kernel_rfl

set_option maxHeartbeats 400000 in
theorem awake01 (w : World) : Calls Try.prog 11 #[] w fun e w' => e = .returned (.bool true) ∧ Nul w w' := by
  go_enter Try.func11, Try.ntmps11
  go_wp2_with fail
  refine (wide_Num_core 258 2 w (by omega) (by omega)).mono ?_
  rw [aw1]
  rintro e w1 ⟨rfl, hf1⟩
  go_wp2_with fail
  have hr : Rd (w1.alloc (.cells #[.string ⟨#[97, 98]⟩] 9)) (w1.alloc (.cells #[.string ⟨#[97, 98]⟩] 9)).heap.size (some ⟨w1.heap.size, 0, none⟩) ([⟨#[97, 98]⟩].map .string) := by
    refine .inr ⟨w1.heap.size, 0, rfl, by simp, fun i v hv => ?_⟩
    rw [Nat.zero_add, (Blk.new w1 9 [.string ⟨#[97, 98]⟩]).cell]
    exact hv
  refine (wide_Texts (some ⟨w1.heap.size, 0, none⟩) 1 [⟨#[97, 98]⟩] _ hr (by simp [textsL, numL]) (by simp)).mono ?_
  rw [aw2]
  rintro e w2 ⟨rfl, hf2⟩
  clear hr
  go_wp2_with fail
  rw [aw6]
  refine (wide_On2 _ w2).mono ?_
  rintro e w3 ⟨rfl, hc3, hf3⟩
  go_wp2_with fail
  refine (cut_Num _ _ _ 2 w3 hc3 (by simp [ByteArray.size])).mono ?_
  rw [aw3]
  rintro e w4 ⟨rfl, hc4, hf4⟩
  go_wp2_with fail
  refine (cut_Text _ _ _ w4 hc4 (by simp [ByteArray.size])).mono ?_
  rw [aw4]
  rintro e w5 ⟨rfl, hc5, hf5⟩
  go_wp2_with fail
  refine (wide_Num_core 258 2 w5 (by omega) (by omega)).mono ?_
  rw [aw1]
  rintro e w6 ⟨rfl, hf6⟩
  go_wp2_with fail
  refine (wide_Val _ w6 (by simp [ByteArray.size])).mono ?_
  rw [aw5]
  rintro e w7 ⟨rfl, rfl⟩
  go_wp2_with fail
  have hc6 := Blk.nul hc5 hf6
  refine (cut_Rest _ _ _ w6 hc6).mono ?_
  rintro e w7 ⟨rfl, rfl⟩
  go_wp2_with fail
  refine (cut_Err _ _ _ w6 hc6).mono ?_
  rintro e w7 ⟨rfl, rfl⟩
  go_wp2_with fail
  go_ret
  have hw2 : Nul w w2 := (hf1.alloc _).nul hf2
  exact ⟨rfl, ((((hw2.nul hf3).one hf4 (.inl hw2.size)).one hf5 (.inl hw2.size)).nul hf6)⟩
end Go.Proofs.Ytokebghephfjhaa
