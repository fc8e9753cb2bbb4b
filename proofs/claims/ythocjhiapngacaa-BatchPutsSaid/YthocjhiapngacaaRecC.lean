/-
  Walks: a key taken from a cut.
-/
import Derived.Test.YthocjhiapngacaaRecB
import Derived.Deep.RegionHeld3
set_option linter.all false
namespace Go.Proofs.Ythocjhiapngacaa
open Go.RowKit

/-- Thirty-two bytes of a text, zeros behind. -/
def key32 (x : ByteArray) : List UInt8 := x.data.toList ++ List.replicate (32 - x.size) 0
theorem key32_length {x : ByteArray} (h : x.size ≤ 32) : (key32 x).length = 32 := by
  have : x.data.toList.length = x.size := rfl
  simp only [key32, List.length_append, List.length_replicate, this]
  omega
theorem takeC_le (s : ByteArray) (e : Int) : (takeC s e 32).1.size ≤ 32 := by
  unfold takeC
  split
  · show 0 ≤ 32; omega
  · split
    · show 0 ≤ 32; omega
    · simp only [ByteArray.size_extract]; omega
theorem key32_cells (x : ByteArray) : (Lib.byteCells x.data.toList ++ (keyL zero32).drop x.size) = keyL (key32 x) := by
  have hd : (keyL zero32).drop x.size = keyL (List.replicate (32 - x.size) 0) := by
    unfold keyL zero32
    rw [List.map_replicate, List.drop_replicate, List.map_replicate]
  rw [hd]
  simp only [key32, keyL, List.map_append]
  rfl

set_option maxRecDepth 100000 in
set_option maxHeartbeats 1000000 in
theorem rec_Get1 (g b : Nat) (s : ByteArray) (e : Int) (w : World) (hg : Blk w g 67 [.pointer (some ⟨b, 0, none⟩)]) (hc : CutAt w b s e) (hs : s.size ≤ 140737488351232) :
    Calls Try.prog 40 #[.pointer (some ⟨g, 0, none⟩)] w fun r w' =>
      r = .returned (.agg (keyL (key32 (takeC s e 32).1)).toArray) ∧ CutAt w' b (takeC s e 32).2.1 (takeC s e 32).2.2 ∧ One b w w' := by
  have hzk := (zero_of_info zero_key).1
  have hgb : g ≠ b := by
    rintro rfl
    have := (hg.same hc).1
    simp at this
  have hlt := hc.lt
  have Hgl := hid (show g ≠ w.heap.size + 1 by have := hg.lt; omega)
  have HC2 : Hid (∀ o1 o2, CutAt ((w.alloc o1).alloc o2) b s e) := hid (fun o1 o2 => Blk.alloc (Blk.alloc hc o1) o2)
  have HN2 : Hid (∀ o1 o2, One b w ((w.alloc o1).alloc o2)) := hid (fun o1 o2 => ((One.refl b w).alloc o1).alloc o2)
  have HB0 : Hid (∀ o2, Blk ((w.alloc (.cells (keyL zero32).toArray 23)).alloc o2) w.heap.size 23 (keyL zero32)) := hid (fun o2 => (Blk.new w _ _).alloc o2)
  have HB1 : Hid (∀ o1, Blk ((w.alloc o1).alloc (.cells (keyL zero32).toArray 23)) (w.heap.size + 1) 23 (keyL zero32)) := hid (fun o1 => Blk.new_at (w.alloc o1) _ _ (by simp))
  have HG := hid (hg.alloc (.cells (keyL zero32).toArray 23) |>.alloc (.cells (keyL zero32).toArray 23))
  have Hlt := hid hlt
  have HT := hid (fun w hc => cut_Take b s e 32 w hc hs)
  have HS := hid (takeC_le s e)
  generalize takeC s e 32 = x at HT HS ⊢
  obtain ⟨v, s', e'⟩ := x
  clear hlt
  go_enter Try.func40, Try.ntmps40
  have H0 : Hid (CutAt ((w.alloc (.cells (keyL zero32).toArray 23)).alloc (.cells (keyL zero32).toArray 23)) b s e ∧ Blk ((w.alloc (.cells (keyL zero32).toArray 23)).alloc (.cells (keyL zero32).toArray 23)) w.heap.size 23 (keyL zero32) ∧ Blk ((w.alloc (.cells (keyL zero32).toArray 23)).alloc (.cells (keyL zero32).toArray 23)) (w.heap.size + 1) 23 (keyL zero32) ∧ One b w ((w.alloc (.cells (keyL zero32).toArray 23)).alloc (.cells (keyL zero32).toArray 23))) := hid ⟨HC2.out _ _, HB0.out _, HB1.out _, HN2.out _ _⟩
  have hcell : ((w.alloc (.cells (keyL zero32).toArray 23)).alloc (.cells (keyL zero32).toArray 23)).cell? ⟨g, 0, none⟩ = some (.pointer (some ⟨b, 0, none⟩)) := HG.out.cell 0
  clear HC2 HB0 HB1 HN2
  go_wp2_with fail
  generalize ((w.alloc (.cells (keyL zero32).toArray 23)).alloc (.cells (keyL zero32).toArray 23)) = w2 at H0 hcell HG ⊢
  have H0d : Hid (CutAt w2.drew b s e) := hid H0.out.1
  go_region_held3 (fun w' => w'.cell? ⟨g, 0, none⟩ = some (.pointer (some ⟨b, 0, none⟩))) (first
    | exact HG.out.cell 0
    | exact H3.out.2.2.2.2.cell 0
    | exact (H3.out.2.2.2.2.rowFar Hgl.out _).cell 0) (first
    | (go_at_call 41
       with_reducible refine (HT.out _ H0d.out).mono ?_
       rintro e w3 ⟨rfl, hc3, hf3⟩
       have H3 : Hid (CutAt w3 b s' e' ∧ Blk w3 w.heap.size 23 (keyL zero32) ∧ Blk w3 (w.heap.size + 1) 23 (keyL zero32) ∧ One b w w3 ∧ Blk w3 g 67 [.pointer (some ⟨b, 0, none⟩)]) := hid ⟨hc3, H0.out.2.1.drew.one hf3 (by have := Hlt.out; omega), H0.out.2.2.1.drew.one hf3 (by have := Hlt.out; omega), H0.out.2.2.2.drew.one hf3 (.inr rfl), HG.out.drew.one hf3 hgb⟩
       have hcp := fun ty => Lib.run_copy_row_string (P := Try.prog) w3 64 9 ty 5 (w.heap.size + 1) 0 32 32 v _ _ Try.underlying64 rfl H3.out.2.2.1 HS.out (by show 0 + v.size ≤ (keyL zero32).toArray.size; have := HS.out; rw [List.size_toArray, keyL_length]; show 0 + v.size ≤ 32; omega)
       clear hc3 hf3))
  have H4 : Hid (CutAt (w3.setRow (w.heap.size + 1) (keyL (key32 v)).toArray) b s' e' ∧ Blk (w3.setRow (w.heap.size + 1) (keyL (key32 v)).toArray) w.heap.size 23 (keyL zero32) ∧ Blk (w3.setRow (w.heap.size + 1) (keyL (key32 v)).toArray) (w.heap.size + 1) 23 (keyL (key32 v)) ∧ One b w (w3.setRow (w.heap.size + 1) (keyL (key32 v)).toArray)) := hid ⟨Blk.rowFar H3.out.1 (by have := Hlt.out; omega) _, H3.out.2.1.rowFar (by omega) _, H3.out.2.2.1.setRow, H3.out.2.2.2.1.setRow (.inl (by omega)) _⟩
  rw [key32_cells]
  have hkl := hid (show (keyL (key32 v)).length = 32 by rw [keyL_length, key32_length HS.out])
  generalize (w3.setRow (w.heap.size + 1) (keyL (key32 v)).toArray) = w4 at H4 ⊢
  clear hcp
  go_wp2_with (first
    | (with_reducible refine wpList_load_blk rfl 23 (.tmp 2) rfl (w.heap.size + 1) rfl 23 (keyL (key32 v)) 32 _ H4.out.2.2.1 key_array rfl size_key hkl.out ?_)
    | (refine wpList_store_blk rfl 23 (.tmp 1) (.tmp 7) rfl w.heap.size (keyL (key32 v)) rfl rfl 23 (keyL zero32) 32 H4.out.2.1 size_key hkl.out rfl (keyL_one _) ?_; intro w' hB hO))
  exact bodyPost_ret (ret_rec rfl rfl hB key_array rfl size_key hkl.out) rfl ⟨rfl, Blk.one H4.out.1 hO (by have := Hlt.out; omega), H4.out.2.2.2.one hO (.inl (by omega))⟩
end Go.Proofs.Ythocjhiapngacaa
