/-
  Walks: batches read: each record.
-/
import Derived.Test.YthocjhiapngacaaBatD
set_option linter.all false
namespace Go.Proofs.Ythocjhiapngacaa
open Go.RowKit

/-- What the closure of 'Get' leaves. -/
def Got1 (g B k : Nat) (xs : List Value) (x : Rcd) (w : World) (e : Ending) (w' : World) : Prop :=
  e = .returned (.bool true) ∧ ∃ v', Blk w' g 44 [v'] ∧ w'.ownsRow B 28 68 v' (k + 1) (xs ++ recL x) ∧ Frm (fun q => q = g ∨ B ≤ q) w w'

set_option maxRecDepth 100000 in
set_option maxHeartbeats 1000000 in
theorem bat_Get1 (x : Rcd) (g B k : Nat) (v : Value) (xs : List Value) (w : World) (hx : x.ok) (hg : Blk w g 44 [v]) (hown : w.ownsRow B 28 68 v k xs) (hB : B ≤ w.heap.size) (hgB : g < B) (hk : k ≤ 1000000) :
    Calls Try.prog 53 #[.agg (recL x).toArray, .pointer (some ⟨g, 0, none⟩)] w (Got1 g B k xs x w) := by
  obtain ⟨i0, hi, hz0, hz1, hz2⟩ := info_parts info_recs
  have HI := hid (And.intro hi (And.intro hz0 (And.intro hz1 hz2)))
  have Hxl := hid (recL_length hx)
  have Hokx : Hid (OkR [x]) := hid (by intro q hq; simp at hq; subst hq; exact hx)
  have HW : Hid (Blk (w.alloc (.cells (recL x).toArray 28)) g 44 [v] ∧ (w.alloc (.cells (recL x).toArray 28)).ownsRow B 28 68 v k xs ∧ B ≤ (w.alloc (.cells (recL x).toArray 28)).heap.size ∧ Frm (fun q => q = g ∨ B ≤ q) w (w.alloc (.cells (recL x).toArray 28)) ∧ Blk (w.alloc (.cells (recL x).toArray 28)) w.heap.size 28 (recL x)) :=
    hid ⟨hg.alloc _, hown.alloc _, by simp; omega, (Frm.refl _ w).alloc _, Blk.new w _ _⟩
  have c0 : (w.alloc (.cells (recL x).toArray 28)).cell? ⟨g, 0, none⟩ = some v := HW.out.1.cell 0
  have Hk : Hid (k + 1 ≤ maxLen ∧ (k + 1) * 104 ≤ 140737488355328 ∧ g < B) := hid ⟨by unfold maxLen; omega, by omega, hgB⟩
  clear hi hz0 hz1 hz2 hx hg hown hB hgB hk
  go_enter Try.func53, Try.ntmps53
  go_wp2_with (first
    | (with_reducible refine wpList_load_blk rfl 28 (.tmp 2) rfl w.heap.size rfl 28 (recL x) 68 _ HW.out.2.2.2.2 rec_fields rfl size_rec Hxl.out ?_)
    | ((with_reducible refine wpList_rows (by kernel_rfl) 44 28 1 _ rfl _ Try.underlying44 zero_rec [x] Hokx.out (by kernel_rfl) (by decide) (by decide) (by kernel_rfl) ?_)
       have H4 : Hid (Blk ((w.alloc (.cells (recL x).toArray 28)).alloc (.cells (recsL [x]).toArray 28)) g 44 [v] ∧ ((w.alloc (.cells (recL x).toArray 28)).alloc (.cells (recsL [x]).toArray 28)).ownsRow B 28 68 v k xs ∧ B ≤ ((w.alloc (.cells (recL x).toArray 28)).alloc (.cells (recsL [x]).toArray 28)).heap.size ∧ Frm (fun q => q = g ∨ B ≤ q) w ((w.alloc (.cells (recL x).toArray 28)).alloc (.cells (recsL [x]).toArray 28)) ∧ Blk ((w.alloc (.cells (recL x).toArray 28)).alloc (.cells (recsL [x]).toArray 28)) (w.alloc (.cells (recL x).toArray 28)).heap.size 28 (recsL [x])) :=
         hid ⟨HW.out.1.alloc _, HW.out.2.1.alloc _, by have := HW.out.2.2.1; simp at this ⊢; omega, HW.out.2.2.2.1.alloc _, Blk.new _ _ _⟩
       clear c0
       generalize ((w.alloc (.cells (recL x).toArray 28)).alloc (.cells (recsL [x]).toArray 28)) = w4 at H4 ⊢
       generalize (w.alloc (.cells (recL x).toArray 28)).heap.size = b4 at H4 ⊢)
    | (at_builtin; refine wpList_append_own _ rfl (.tmp 4) (.tmp 6) 44 rfl B 28 i0 _ 68 104 Try.underlying44 HI.out.1 HI.out.2.1 HI.out.2.2.1 HI.out.2.2.2 rfl (by decide) v k _ rfl H4.out.2.1 ⟨b4, 0, none⟩ 1 1 (recsL [x]) rfl (recsL_length Hokx.out) (fun q u hu => by rw [Addr.add_mid, H4.out.2.2.2.2.cell, Nat.zero_add]; exact hu) (recsL_one _) Hk.out.1 Hk.out.2.1 H4.out.2.2.1 ?_; intro v5 w5 hown5 hgr5 _
       obtain ⟨A5, cc5, rfl⟩ := own_shape hown5
       have H5 : Hid (Blk w5 g 44 [v] ∧ w5.ownsRow B 28 68 (.slice A5 (k + 1) cc5) (k + 1) (xs ++ recL x) ∧ Frm (fun q => q = g ∨ B ≤ q) w w5) := hid ⟨H4.out.1.grown hgr5 (fun hh => by have := (H4.out.2.1.lt g hh.symm).1; have := Hk.out.2.2; omega), by simpa [recsL] using hown5, H4.out.2.2.2.1.grown hgr5 (fun q hq => .inr (.inr (H4.out.2.1.lt q hq).1))⟩
       have c5 : w5.cell? ⟨g, 0, none⟩ = some v := H5.out.1.cell 0
       have f5 := H5.out.1.frozen 0
       have H6 : Hid (Blk (w5.setCell ⟨g, 0, none⟩ (.slice A5 (k + 1) cc5)) g 44 [.slice A5 (k + 1) cc5] ∧ (w5.setCell ⟨g, 0, none⟩ (.slice A5 (k + 1) cc5)).ownsRow B 28 68 (.slice A5 (k + 1) cc5) (k + 1) (xs ++ recL x) ∧ Frm (fun q => q = g ∨ B ≤ q) w (w5.setCell ⟨g, 0, none⟩ (.slice A5 (k + 1) cc5))) := hid ⟨H5.out.1.put 0 _, own_far H5.out.2.1 (fun hh => by have := (H5.out.2.1.lt g hh.symm).1; have := Hk.out.2.2; omega) _, H5.out.2.2.setCell (p := ⟨g, 0, none⟩) (.inr (.inl rfl)) _⟩
       clear hown5 hgr5))
  go_ret
  exact ⟨rfl, _, H6.out.1, H6.out.2.1, H6.out.2.2⟩
end Go.Proofs.Ythocjhiapngacaa
