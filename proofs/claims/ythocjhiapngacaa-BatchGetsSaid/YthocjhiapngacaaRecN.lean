/-
  Walks: may a record be, the document's.
-/
import Derived.Test.YthocjhiapngacaaRecK
set_option linter.all false
namespace Go.Proofs.Ythocjhiapngacaa
open Go.RowKit

set_option maxRecDepth 100000 in
set_option maxHeartbeats 4000000 in
theorem ref_May_no (k : List UInt8) (d : Bool) (v : ByteArray) (s : List UInt8) (n : Int) (kd : Int) (w : World) (hk : k.length = 32) (hs : s.length = 32) (hv : v.size ≤ 9223372036854775807) (h1 : kd ≠ 1) (h2 : kd ≠ 2) (h3 : kd ≠ 3) (h4 : kd ≠ 4) (h5 : kd ≠ 5) :
    Calls Try.prog 10 #[.agg (recL ⟨kd, k, d, v, s, n⟩).toArray] w fun e w' => e = .returned (.bool (recGood ⟨kd, k, d, v, s, n⟩)) ∧ Nul w w' := by
  have hgood : recGood ⟨kd, k, d, v, s, n⟩ = false := by
    unfold recGood recWant
    simp only [if_neg h1, if_neg h2, if_neg h3, if_neg h4, if_neg h5]
    rfl
  obtain ⟨r, hr⟩ : ∃ r : Rcd, r = ⟨kd, k, d, v, s, n⟩ := ⟨_, rfl⟩
  have hrk : r.ok := by rw [hr]; exact ⟨hk, hs⟩
  rw [hgood, ← hr]
  have HB := hid (Blk.new w 28 (recL r))
  have HX : Hid (∀ w', Blk w' w.heap.size 28 (recL r) → w'.cell? ⟨w.heap.size, 0, none⟩ = some (.int .i64 kd) ∧ World.rangeAt w' w.heap.size 1 (keyL k) ∧ World.rangeAt w' w.heap.size 33 (entL d v) ∧ World.rangeAt w' w.heap.size 35 (keyL s) ∧ w'.cell? ⟨w.heap.size, 67, none⟩ = some (.int .i64 n)) := hid (fun w' h => by
    have g1 := h.cell 0
    have g2 := range_key hrk h
    have g3 := range_ent hrk h
    have g4 := range_sum hrk h
    have g5 := h.cell 67
    rw [recL_n hrk] at g5
    rw [recL_kind] at g1
    rw [hr] at g1 g2 g3 g4 g5
    exact ⟨g1, g2, g3, g4, g5⟩)
  have c0 := (HX.out _ HB.out).1
  have c33 : (w.alloc (.cells (recL r).toArray 28)).cell? ⟨w.heap.size, 33, none⟩ = some (.bool d) := (HX.out _ HB.out).2.2.1 0 _ rfl
  have c34 : (w.alloc (.cells (recL r).toArray 28)).cell? ⟨w.heap.size, 34, none⟩ = some (.string v) := (HX.out _ HB.out).2.2.1 1 _ rfl
  have c67 := (HX.out _ HB.out).2.2.2.2
  have Hkl : Hid ((Try.prog.info? 23).map (·.size) = some (keyL k).length) := hid (by rw [size_key, keyL_length, hk])
  have Hsl : Hid ((Try.prog.info? 26).map (·.size) = some (keyL s).length) := hid (by rw [size_sum, keyL_length, hs])
  have hA := key_neq hk (show zero32.length = 32 from rfl)
  have hB : ∀ w, (binOp .neq 25 (.agg #[.bool d, .string v]) (.agg #[.bool false, .string ⟨#[]⟩])).run Try.prog w = .ok (.bool (!(d == false && v.toList == (⟨#[]⟩ : ByteArray).toList))) w := ent_neq d false v ⟨#[]⟩
  have hC := sum_neq hs (show zero32.length = 32 from rfl)
  have HE := hid (fun w => ref_ECheck d v w hv)
  have HN := hid ((Frm.refl (fun _ => False) w).alloc (.cells (recL r).toArray 28))
  have g1 : (kd == 1) = false := by simpa using h1
  have g2 : (kd == 2) = false := by simpa using h2
  have g3 : (kd == 3) = false := by simpa using h3
  have g4 : (kd == 4) = false := by simpa using h4
  have g5 : (kd == 5) = false := by simpa using h5
  have g6 : (kd != 5) = true := by simpa using h5
  clear h1 h2 h3 h4 h5
  clear hk hs hv hr hrk hgood
  generalize hab : (k == zero32) = ab at hA ⊢
  generalize hbb : (d == false && v.toList == (⟨#[]⟩ : ByteArray).toList) = bb at hB ⊢
  generalize hcb : (s == zero32) = cb at hC ⊢
  clear hab hbb hcb
  cases ab
  · cases bb
    · cases cb <;> cases hn0 : (n == 0)
      all_goals
        have hn1 : (n != 0) = !(n == 0) := rfl
        rw [hn0] at hn1
        simp only [Bool.not_true, Bool.not_false] at hn1
        go_enter Try.func10, Try.ntmps10
        go_wp2_with (first
              | (with_reducible refine wpList_load_gdm 23 (.tmp 24) rfl (by kernel_rfl) w.heap.size 1 rfl (keyL k) _ (HX.out _ HB.out).2.1 key_array rfl Hkl.out ?_)
              | (with_reducible refine wpList_built_gd 23 rfl (by kernel_rfl) _ built_zkey ?_))
        go_ret
        exact ⟨by rfl, HN.out⟩
    · cases cb <;> cases hn0 : (n == 0)
      all_goals
        have hn1 : (n != 0) = !(n == 0) := rfl
        rw [hn0] at hn1
        simp only [Bool.not_true, Bool.not_false] at hn1
        go_enter Try.func10, Try.ntmps10
        go_wp2_with (first
              | (with_reducible refine wpList_load_gdm 23 (.tmp 24) rfl (by kernel_rfl) w.heap.size 1 rfl (keyL k) _ (HX.out _ HB.out).2.1 key_array rfl Hkl.out ?_)
              | (with_reducible refine wpList_built_gd 23 rfl (by kernel_rfl) _ built_zkey ?_))
        go_ret
        exact ⟨by rfl, HN.out⟩
  · cases bb
    · cases cb <;> cases hn0 : (n == 0)
      all_goals
        have hn1 : (n != 0) = !(n == 0) := rfl
        rw [hn0] at hn1
        simp only [Bool.not_true, Bool.not_false] at hn1
        go_enter Try.func10, Try.ntmps10
        go_wp2_with (first
              | (with_reducible refine wpList_load_gdm 23 (.tmp 24) rfl (by kernel_rfl) w.heap.size 1 rfl (keyL k) _ (HX.out _ HB.out).2.1 key_array rfl Hkl.out ?_)
              | (with_reducible refine wpList_built_gd 23 rfl (by kernel_rfl) _ built_zkey ?_))
        go_ret
        exact ⟨by rfl, HN.out⟩
    · cases cb <;> cases hn0 : (n == 0)
      all_goals
        have hn1 : (n != 0) = !(n == 0) := rfl
        rw [hn0] at hn1
        simp only [Bool.not_true, Bool.not_false] at hn1
        go_enter Try.func10, Try.ntmps10
        go_wp2_with (first
              | (with_reducible refine wpList_load_gdm 23 (.tmp 24) rfl (by kernel_rfl) w.heap.size 1 rfl (keyL k) _ (HX.out _ HB.out).2.1 key_array rfl Hkl.out ?_)
              | (with_reducible refine wpList_built_gd 23 rfl (by kernel_rfl) _ built_zkey ?_)
              | (with_reducible refine wpList_load_gdm 26 (.tmp 39) rfl (by kernel_rfl) w.heap.size 35 rfl (keyL s) _ (HX.out _ HB.out).2.2.2.1 sum_array rfl Hsl.out ?_)
              | (with_reducible refine wpList_built_gd 26 rfl (by kernel_rfl) _ built_zsum ?_))
        go_ret
        exact ⟨by rfl, HN.out⟩
end Go.Proofs.Ythocjhiapngacaa
