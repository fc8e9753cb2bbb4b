/-
  Records got: what a text holds; the laws of the walk.
-/
import Derived.Test.YthocjhiapngacaaRecH
set_option linter.all false
namespace Go.Proofs.Ythocjhiapngacaa
open Go.RowKit

set_option maxRecDepth 100000 in
set_option maxHeartbeats 1000000 in
theorem rec_Get_3 (s : ByteArray) (w : World) (hs : s.size ≤ 140737488351232) (s0 x1 s1 : ByteArray) (e0 e1 : Int)
    (h0 : numC s 0 1 = (3, s0, e0)) (h1 : takeC s0 e0 32 = (x1, s1, e1)) :
    Calls Try.prog 12 #[.string s] w fun e w' => e = .returned (.tuple #[.agg (recL (recFin s ⟨3, zero32, false, ⟨#[]⟩, key32 x1, 0⟩ e1).1).toArray, .int .i64 (recFin s ⟨3, zero32, false, ⟨#[]⟩, key32 x1, 0⟩ e1).2]) ∧ Nul w w' := by
  have hz := (zero_of_info zero_rec).1
  have hz0 : s0.size ≤ 140737488351232 := by have := numC_size s 0 1; rw [h0] at this; exact Nat.le_trans this hs
  have hx1 : x1.size ≤ 32 := by have := takeC_le s0 e0; rw [h1] at this; exact this
  have hk := key32_length hx1
  obtain ⟨k, hkk⟩ : ∃ k, key32 x1 = k := ⟨_, rfl⟩
  rw [hkk] at hk ⊢
  obtain ⟨r, hr⟩ : ∃ r : Rcd, r = ⟨3, zero32, false, ⟨#[]⟩, k, 0⟩ := ⟨_, rfl⟩
  rw [← hr]
  have hrk : r.ok := by rw [hr]; exact ⟨rfl, hk⟩
  have HPut := hid (fun w => rec_Put r w hrk (by rw [hr]; show 0 ≤ _; omega))
  have Hk := hid hk
  have HR := hid hr
  have HZ := hid (And.intro hz0 True.intro)
  have HH := hid (And.intro h0 (And.intro h1 hkk))
  have HQ := hid hrk
  have HB0 := hid (Blk.new w 28 (recL rzero))
  have Hs := hid hs
  have Hbk := hid (built_kind 3)
  clear hs hz0 hx1 hk hkk hr hrk h0 h1
  go_enter Try.func12, Try.ntmps12
  go_wp2_with fail
  refine (wide_On2 s _).mono ?_
  rintro e w1 ⟨rfl, hc1, hf1⟩
  have hbs : ((w.alloc (.cells (recL rzero).toArray 28)).heap.size) = w.heap.size + 1 := by simp
  rw [hbs] at hc1
  have H1 : Hid (CutAt w1 (w.heap.size + 1) s 0 ∧ Blk w1 w.heap.size 28 (recL rzero) ∧ Nul w w1) := hid ⟨hc1, HB0.out.nul hf1, ((Frm.refl (fun _ => False) w).alloc _).nul hf1⟩
  have Hlt := hid H1.out.1.lt
  clear hbs hc1 hf1
  have H2 : Hid (CutAt (w1.alloc (.cells #[.pointer (some ⟨w.heap.size + 1, 0, none⟩)] 67)) (w.heap.size + 1) s 0 ∧ Blk (w1.alloc (.cells #[.pointer (some ⟨w.heap.size + 1, 0, none⟩)] 67)) w.heap.size 28 (recL rzero) ∧ Nul w (w1.alloc (.cells #[.pointer (some ⟨w.heap.size + 1, 0, none⟩)] 67)) ∧ Blk (w1.alloc (.cells #[.pointer (some ⟨w.heap.size + 1, 0, none⟩)] 67)) w1.heap.size 67 [.pointer (some ⟨w.heap.size + 1, 0, none⟩)]) := hid ⟨Blk.alloc H1.out.1 _, H1.out.2.1.alloc _, H1.out.2.2.alloc _, Blk.new w1 _ [.pointer (some ⟨w.heap.size + 1, 0, none⟩)]⟩
  go_wp2_with fail
  have HN := hid (cut_Num (w.heap.size + 1) s 0 1 _ H2.out.1 Hs.out)
  rw [HH.out.1] at HN
  refine HN.out.mono ?_
  rintro e w3 ⟨rfl, hc3, hf3⟩
  have H3 : Hid (CutAt w3 (w.heap.size + 1) s0 e0 ∧ Blk w3 w.heap.size 28 (recL rzero) ∧ Nul w w3 ∧ Blk w3 w1.heap.size 67 [.pointer (some ⟨w.heap.size + 1, 0, none⟩)]) := hid ⟨hc3, H2.out.2.1.one hf3 (by omega), H2.out.2.2.1.one hf3 (.inl (by omega)), H2.out.2.2.2.one hf3 (by have := Hlt.out; omega)⟩
  have Hlt3 := hid (And.intro H3.out.2.2.2.lt (And.intro H3.out.2.1.lt H3.out.1.lt))
  clear hc3 hf3 HN
  go_wp2_with (first
    | (refine wpList_built rfl 28 _ rfl _ Hbk.out ?_)
    | (refine wpList_store_blk rfl 28 (.tmp 5) (.tmp 15) rfl w3.heap.size (recL ⟨3, zero32, false, ⟨#[]⟩, zero32, 0⟩) rfl rfl 28 (recL rzero) 68 (Blk.new w3 _ _) size_rec rfl rfl (recL_one _) ?_; intro w4 hB hO
       have H4 : Hid (CutAt w4 (w.heap.size + 1) s0 e0 ∧ Blk w4 w.heap.size 28 (recL rzero) ∧ Nul w w4 ∧ Blk w4 w1.heap.size 67 [.pointer (some ⟨w.heap.size + 1, 0, none⟩)] ∧ Blk w4 w3.heap.size 28 (recL ⟨3, zero32, false, ⟨#[]⟩, zero32, 0⟩)) := hid ⟨Blk.one (Blk.alloc H3.out.1 _) hO (by have := Hlt3.out; omega), (H3.out.2.1.alloc _).one hO (by have := Hlt3.out; omega), (H3.out.2.2.1.alloc _).one hO (.inl (by have := Hlt3.out; omega)), (H3.out.2.2.2.alloc _).one hO (by have := Hlt3.out; omega), hB⟩
       have c0 : w4.cell? ⟨w3.heap.size, 0, none⟩ = some (.int .i64 3) := H4.out.2.2.2.2.cell 0
       clear hB hO))
  have HG := hid (rec_Get1 w1.heap.size (w.heap.size + 1) s0 e0 w4 H4.out.2.2.2.1 H4.out.1 HZ.out.1)
  rw [HH.out.2.1] at HG
  refine HG.out.mono ?_
  rintro e w5 ⟨rfl, hc5, hf5⟩
  have H5 : Hid (CutAt w5 (w.heap.size + 1) s1 e1 ∧ Blk w5 w.heap.size 28 (recL rzero) ∧ Nul w w5 ∧ Blk w5 w1.heap.size 67 [.pointer (some ⟨w.heap.size + 1, 0, none⟩)] ∧ Blk w5 w3.heap.size 28 (recL ⟨3, zero32, false, ⟨#[]⟩, zero32, 0⟩)) := hid ⟨hc5, H4.out.2.1.one hf5 (by omega), H4.out.2.2.1.one hf5 (.inl (by omega)), H4.out.2.2.2.1.one hf5 (by have := Hlt.out; omega), H4.out.2.2.2.2.one hf5 (by have := Hlt3.out; omega)⟩
  clear hc5 hf5 HG c0
  rw [HH.out.2.2]
  have Hkl : Hid ((Try.prog.info? 26).map (·.size) = some (keyL k).length) := hid (by rw [size_sum, keyL_length, Hk.out])
  have Hkn : Hid (35 + (keyL k).length ≤ (recL ⟨3, zero32, false, ⟨#[]⟩, zero32, 0⟩).length) := hid (by rw [keyL_length, Hk.out, recL_length ⟨rfl, rfl⟩]; omega)
  go_wp2_with (first
    | (refine wpList_store_part rfl 26 (.tmp 47) (.tmp 46) rfl w3.heap.size 35 (keyL k) rfl rfl 28 _ H5.out.2.2.2.2 Hkl.out Hkn.out (keyL_one _) ?_; intro w9 hB hO
       rw [recL_setSum ⟨rfl, rfl⟩ Hk.out] at hB
       have H9 : Hid (CutAt w9 (w.heap.size + 1) s1 e1 ∧ Blk w9 w.heap.size 28 (recL rzero) ∧ Nul w w9 ∧ w9.cell? ⟨w1.heap.size, 0, none⟩ = some (.pointer (some ⟨w.heap.size + 1, 0, none⟩)) ∧ Blk w9 w3.heap.size 28 (recL r)) := hid ⟨Blk.one H5.out.1 hO (by have := Hlt3.out; omega), H5.out.2.1.one hO (by have := Hlt3.out; omega), H5.out.2.2.1.one hO (.inl (by have := Hlt3.out; omega)), (H5.out.2.2.2.1.one hO (by have := Hlt3.out; omega)).cell 0, by rw [HR.out]; exact hB⟩
       have c4 := H9.out.2.2.2.1
       clear hB hO))
  have HErr := hid (cut_Err (w.heap.size + 1) s1 e1 w9 H9.out.1)
  refine HErr.out.mono ?_
  rintro e w10 ⟨rfl, hw⟩
  subst hw
  have Hbz := hid built_zero
  have Hrl := hid (recL_length HQ.out)
  by_cases he2 : e1 = 0
  · have g1 : (e1 != 0) = false := by rw [he2]; rfl
    rcases recChk_cases r with ⟨hg, hc⟩ | ⟨hg, hc⟩
    · have HP2 : Hid (∀ w, Calls Try.prog 9 #[.agg (recL r).toArray] w fun e w' => e = .returned (.tuple #[.string (recS r), .int .i64 0]) ∧ Nul w w') := hid (fun w => by have := HPut.out w; rw [hg, hc] at this; exact this)
      by_cases hq : recS r = s
      · have Hfin : Hid (recFin s r e1 = (r, 0)) := hid (by unfold recFin; rw [if_neg (by simp [he2]), if_pos ⟨hg, hq⟩])
        have hb : ((recS r).toList == s.toList) = true := by rw [hq]; exact beq_self_eq_true _
        generalize recS r = z at HP2 hb
        clear hg hc hq he2
        go_wp2_with (first
          | (refine wpList_load_blk rfl 28 (.tmp 5) rfl w3.heap.size rfl 28 (recL r) 68 _ H9.out.2.2.2.2 rec_fields rfl size_rec Hrl.out ?_))
        refine (HP2.out _).mono ?_
        rintro e w10 ⟨rfl, hf⟩
        have H10 : Hid (Blk w10 w.heap.size 28 (recL rzero) ∧ Nul w w10 ∧ Blk w10 w3.heap.size 28 (recL r)) := hid ⟨H9.out.2.1.nul hf, H9.out.2.2.1.nul hf, H9.out.2.2.2.2.nul hf⟩
        clear hf
        go_wp2_with (first
          | (refine wpList_load_blk rfl 28 (.tmp 5) rfl w3.heap.size rfl 28 (recL r) 68 _ H10.out.2.2 rec_fields rfl size_rec Hrl.out ?_)
          | (refine wpList_store_blk rfl 28 (.tmp 2) (.tmp 67) rfl w.heap.size (recL r) rfl rfl 28 (recL rzero) 68 H10.out.1 size_rec Hrl.out rfl (recL_one _) ?_; intro w11 hB hO))
        exact bodyPost_ret (ret_rec2 rfl rfl hB rec_fields rfl size_rec Hrl.out) rfl ⟨by rw [Hfin.out]; rfl, H10.out.2.1.one hO (.inl (Nat.le_refl _))⟩
      · have Hfin : Hid (recFin s r e1 = (rzero, 6)) := hid (by unfold recFin; rw [if_neg (by simp [he2]), if_neg (fun h => hq h.2)])
        have hb : ((recS r).toList == s.toList) = false := toList_ne hq
        generalize recS r = z at HP2 hb
        clear hg hc hq he2
        go_wp2_with (first
          | (refine wpList_load_blk rfl 28 (.tmp 5) rfl w3.heap.size rfl 28 (recL r) 68 _ H9.out.2.2.2.2 rec_fields rfl size_rec Hrl.out ?_))
        refine (HP2.out _).mono ?_
        rintro e w10 ⟨rfl, hf⟩
        have H10 : Hid (Blk w10 w.heap.size 28 (recL rzero) ∧ Nul w w10 ∧ Blk w10 w3.heap.size 28 (recL r)) := hid ⟨H9.out.2.1.nul hf, H9.out.2.2.1.nul hf, H9.out.2.2.2.2.nul hf⟩
        clear hf
        go_wp2_with (first
          | (refine wpList_built rfl 28 _ rfl _ Hbz.out ?_)
          | (refine wpList_store_blk rfl 28 (.tmp 2) (.tmp 66) rfl w.heap.size (recL rzero) rfl rfl 28 (recL rzero) 68 H10.out.1 size_rec rfl rfl (recL_one _) ?_; intro w11 hB hO))
        exact bodyPost_ret (ret_rec2 rfl rfl hB rec_fields rfl size_rec rfl) rfl ⟨by rw [Hfin.out]; rfl, H10.out.2.1.one hO (.inl (Nat.le_refl _))⟩
    · have HP2 : Hid (∀ w, Calls Try.prog 9 #[.agg (recL r).toArray] w fun e w' => e = .returned (.tuple #[.string ⟨#[]⟩, .int .i64 2]) ∧ Nul w w') := hid (fun w => by have := HPut.out w; rw [hg, hc] at this; exact this)
      have Hfin : Hid (recFin s r e1 = (rzero, 6)) := hid (by unfold recFin; rw [if_neg (by simp [he2]), if_neg (fun h => by rw [hg] at h; cases h.1)])
      clear hg hc he2
      go_wp2_with (first
        | (refine wpList_load_blk rfl 28 (.tmp 5) rfl w3.heap.size rfl 28 (recL r) 68 _ H9.out.2.2.2.2 rec_fields rfl size_rec Hrl.out ?_))
      refine (HP2.out _).mono ?_
      rintro e w10 ⟨rfl, hf⟩
      have H10 : Hid (Blk w10 w.heap.size 28 (recL rzero) ∧ Nul w w10 ∧ Blk w10 w3.heap.size 28 (recL r)) := hid ⟨H9.out.2.1.nul hf, H9.out.2.2.1.nul hf, H9.out.2.2.2.2.nul hf⟩
      clear hf
      go_wp2_with (first
        | (refine wpList_built rfl 28 _ rfl _ Hbz.out ?_)
        | (refine wpList_store_blk rfl 28 (.tmp 2) (.tmp 66) rfl w.heap.size (recL rzero) rfl rfl 28 (recL rzero) 68 H10.out.1 size_rec rfl rfl (recL_one _) ?_; intro w11 hB hO))
      exact bodyPost_ret (ret_rec2 rfl rfl hB rec_fields rfl size_rec rfl) rfl ⟨by rw [Hfin.out]; rfl, H10.out.2.1.one hO (.inl (Nat.le_refl _))⟩
  · have g1 : (e1 != 0) = true := by simpa using he2
    have Hfin : Hid (recFin s r e1 = (rzero, e1)) := hid (by unfold recFin; rw [if_pos he2])
    clear he2
    go_wp2_with (first
      | (refine wpList_built rfl 28 _ rfl _ Hbz.out ?_)
      | (refine wpList_store_blk rfl 28 (.tmp 2) (.tmp 52) rfl w.heap.size (recL rzero) rfl rfl 28 (recL rzero) 68 H9.out.2.1 size_rec rfl rfl (recL_one _) ?_; intro w11 hB hO))
    exact bodyPost_ret (ret_rec2 rfl rfl hB rec_fields rfl size_rec rfl) rfl ⟨by rw [Hfin.out]; rfl, H9.out.2.2.1.one hO (.inl (Nat.le_refl _))⟩
set_option maxRecDepth 100000 in
set_option maxHeartbeats 1000000 in
theorem rec_Get_4 (s : ByteArray) (w : World) (hs : s.size ≤ 140737488351232) (s0 x1 s1 : ByteArray) (e0 e1 : Int)
    (h0 : numC s 0 1 = (4, s0, e0)) (h1 : takeC s0 e0 32 = (x1, s1, e1)) :
    Calls Try.prog 12 #[.string s] w fun e w' => e = .returned (.tuple #[.agg (recL (recFin s ⟨4, zero32, false, ⟨#[]⟩, key32 x1, 0⟩ e1).1).toArray, .int .i64 (recFin s ⟨4, zero32, false, ⟨#[]⟩, key32 x1, 0⟩ e1).2]) ∧ Nul w w' := by
  have hz := (zero_of_info zero_rec).1
  have hz0 : s0.size ≤ 140737488351232 := by have := numC_size s 0 1; rw [h0] at this; exact Nat.le_trans this hs
  have hx1 : x1.size ≤ 32 := by have := takeC_le s0 e0; rw [h1] at this; exact this
  have hk := key32_length hx1
  obtain ⟨k, hkk⟩ : ∃ k, key32 x1 = k := ⟨_, rfl⟩
  rw [hkk] at hk ⊢
  obtain ⟨r, hr⟩ : ∃ r : Rcd, r = ⟨4, zero32, false, ⟨#[]⟩, k, 0⟩ := ⟨_, rfl⟩
  rw [← hr]
  have hrk : r.ok := by rw [hr]; exact ⟨rfl, hk⟩
  have HPut := hid (fun w => rec_Put r w hrk (by rw [hr]; show 0 ≤ _; omega))
  have Hk := hid hk
  have HR := hid hr
  have HZ := hid (And.intro hz0 True.intro)
  have HH := hid (And.intro h0 (And.intro h1 hkk))
  have HQ := hid hrk
  have HB0 := hid (Blk.new w 28 (recL rzero))
  have Hs := hid hs
  have Hbk := hid (built_kind 4)
  clear hs hz0 hx1 hk hkk hr hrk h0 h1
  go_enter Try.func12, Try.ntmps12
  go_wp2_with fail
  refine (wide_On2 s _).mono ?_
  rintro e w1 ⟨rfl, hc1, hf1⟩
  have hbs : ((w.alloc (.cells (recL rzero).toArray 28)).heap.size) = w.heap.size + 1 := by simp
  rw [hbs] at hc1
  have H1 : Hid (CutAt w1 (w.heap.size + 1) s 0 ∧ Blk w1 w.heap.size 28 (recL rzero) ∧ Nul w w1) := hid ⟨hc1, HB0.out.nul hf1, ((Frm.refl (fun _ => False) w).alloc _).nul hf1⟩
  have Hlt := hid H1.out.1.lt
  clear hbs hc1 hf1
  have H2 : Hid (CutAt (w1.alloc (.cells #[.pointer (some ⟨w.heap.size + 1, 0, none⟩)] 67)) (w.heap.size + 1) s 0 ∧ Blk (w1.alloc (.cells #[.pointer (some ⟨w.heap.size + 1, 0, none⟩)] 67)) w.heap.size 28 (recL rzero) ∧ Nul w (w1.alloc (.cells #[.pointer (some ⟨w.heap.size + 1, 0, none⟩)] 67)) ∧ Blk (w1.alloc (.cells #[.pointer (some ⟨w.heap.size + 1, 0, none⟩)] 67)) w1.heap.size 67 [.pointer (some ⟨w.heap.size + 1, 0, none⟩)]) := hid ⟨Blk.alloc H1.out.1 _, H1.out.2.1.alloc _, H1.out.2.2.alloc _, Blk.new w1 _ [.pointer (some ⟨w.heap.size + 1, 0, none⟩)]⟩
  go_wp2_with fail
  have HN := hid (cut_Num (w.heap.size + 1) s 0 1 _ H2.out.1 Hs.out)
  rw [HH.out.1] at HN
  refine HN.out.mono ?_
  rintro e w3 ⟨rfl, hc3, hf3⟩
  have H3 : Hid (CutAt w3 (w.heap.size + 1) s0 e0 ∧ Blk w3 w.heap.size 28 (recL rzero) ∧ Nul w w3 ∧ Blk w3 w1.heap.size 67 [.pointer (some ⟨w.heap.size + 1, 0, none⟩)]) := hid ⟨hc3, H2.out.2.1.one hf3 (by omega), H2.out.2.2.1.one hf3 (.inl (by omega)), H2.out.2.2.2.one hf3 (by have := Hlt.out; omega)⟩
  have Hlt3 := hid (And.intro H3.out.2.2.2.lt (And.intro H3.out.2.1.lt H3.out.1.lt))
  clear hc3 hf3 HN
  go_wp2_with (first
    | (refine wpList_built rfl 28 _ rfl _ Hbk.out ?_)
    | (refine wpList_store_blk rfl 28 (.tmp 5) (.tmp 15) rfl w3.heap.size (recL ⟨4, zero32, false, ⟨#[]⟩, zero32, 0⟩) rfl rfl 28 (recL rzero) 68 (Blk.new w3 _ _) size_rec rfl rfl (recL_one _) ?_; intro w4 hB hO
       have H4 : Hid (CutAt w4 (w.heap.size + 1) s0 e0 ∧ Blk w4 w.heap.size 28 (recL rzero) ∧ Nul w w4 ∧ Blk w4 w1.heap.size 67 [.pointer (some ⟨w.heap.size + 1, 0, none⟩)] ∧ Blk w4 w3.heap.size 28 (recL ⟨4, zero32, false, ⟨#[]⟩, zero32, 0⟩)) := hid ⟨Blk.one (Blk.alloc H3.out.1 _) hO (by have := Hlt3.out; omega), (H3.out.2.1.alloc _).one hO (by have := Hlt3.out; omega), (H3.out.2.2.1.alloc _).one hO (.inl (by have := Hlt3.out; omega)), (H3.out.2.2.2.alloc _).one hO (by have := Hlt3.out; omega), hB⟩
       have c0 : w4.cell? ⟨w3.heap.size, 0, none⟩ = some (.int .i64 4) := H4.out.2.2.2.2.cell 0
       clear hB hO))
  have HG := hid (rec_Get1 w1.heap.size (w.heap.size + 1) s0 e0 w4 H4.out.2.2.2.1 H4.out.1 HZ.out.1)
  rw [HH.out.2.1] at HG
  refine HG.out.mono ?_
  rintro e w5 ⟨rfl, hc5, hf5⟩
  have H5 : Hid (CutAt w5 (w.heap.size + 1) s1 e1 ∧ Blk w5 w.heap.size 28 (recL rzero) ∧ Nul w w5 ∧ Blk w5 w1.heap.size 67 [.pointer (some ⟨w.heap.size + 1, 0, none⟩)] ∧ Blk w5 w3.heap.size 28 (recL ⟨4, zero32, false, ⟨#[]⟩, zero32, 0⟩)) := hid ⟨hc5, H4.out.2.1.one hf5 (by omega), H4.out.2.2.1.one hf5 (.inl (by omega)), H4.out.2.2.2.1.one hf5 (by have := Hlt.out; omega), H4.out.2.2.2.2.one hf5 (by have := Hlt3.out; omega)⟩
  clear hc5 hf5 HG c0
  rw [HH.out.2.2]
  have Hkl : Hid ((Try.prog.info? 26).map (·.size) = some (keyL k).length) := hid (by rw [size_sum, keyL_length, Hk.out])
  have Hkn : Hid (35 + (keyL k).length ≤ (recL ⟨4, zero32, false, ⟨#[]⟩, zero32, 0⟩).length) := hid (by rw [keyL_length, Hk.out, recL_length ⟨rfl, rfl⟩]; omega)
  go_wp2_with (first
    | (refine wpList_store_part rfl 26 (.tmp 47) (.tmp 46) rfl w3.heap.size 35 (keyL k) rfl rfl 28 _ H5.out.2.2.2.2 Hkl.out Hkn.out (keyL_one _) ?_; intro w9 hB hO
       rw [recL_setSum ⟨rfl, rfl⟩ Hk.out] at hB
       have H9 : Hid (CutAt w9 (w.heap.size + 1) s1 e1 ∧ Blk w9 w.heap.size 28 (recL rzero) ∧ Nul w w9 ∧ w9.cell? ⟨w1.heap.size, 0, none⟩ = some (.pointer (some ⟨w.heap.size + 1, 0, none⟩)) ∧ Blk w9 w3.heap.size 28 (recL r)) := hid ⟨Blk.one H5.out.1 hO (by have := Hlt3.out; omega), H5.out.2.1.one hO (by have := Hlt3.out; omega), H5.out.2.2.1.one hO (.inl (by have := Hlt3.out; omega)), (H5.out.2.2.2.1.one hO (by have := Hlt3.out; omega)).cell 0, by rw [HR.out]; exact hB⟩
       have c4 := H9.out.2.2.2.1
       clear hB hO))
  have HErr := hid (cut_Err (w.heap.size + 1) s1 e1 w9 H9.out.1)
  refine HErr.out.mono ?_
  rintro e w10 ⟨rfl, hw⟩
  subst hw
  have Hbz := hid built_zero
  have Hrl := hid (recL_length HQ.out)
  by_cases he2 : e1 = 0
  · have g1 : (e1 != 0) = false := by rw [he2]; rfl
    rcases recChk_cases r with ⟨hg, hc⟩ | ⟨hg, hc⟩
    · have HP2 : Hid (∀ w, Calls Try.prog 9 #[.agg (recL r).toArray] w fun e w' => e = .returned (.tuple #[.string (recS r), .int .i64 0]) ∧ Nul w w') := hid (fun w => by have := HPut.out w; rw [hg, hc] at this; exact this)
      by_cases hq : recS r = s
      · have Hfin : Hid (recFin s r e1 = (r, 0)) := hid (by unfold recFin; rw [if_neg (by simp [he2]), if_pos ⟨hg, hq⟩])
        have hb : ((recS r).toList == s.toList) = true := by rw [hq]; exact beq_self_eq_true _
        generalize recS r = z at HP2 hb
        clear hg hc hq he2
        go_wp2_with (first
          | (refine wpList_load_blk rfl 28 (.tmp 5) rfl w3.heap.size rfl 28 (recL r) 68 _ H9.out.2.2.2.2 rec_fields rfl size_rec Hrl.out ?_))
        refine (HP2.out _).mono ?_
        rintro e w10 ⟨rfl, hf⟩
        have H10 : Hid (Blk w10 w.heap.size 28 (recL rzero) ∧ Nul w w10 ∧ Blk w10 w3.heap.size 28 (recL r)) := hid ⟨H9.out.2.1.nul hf, H9.out.2.2.1.nul hf, H9.out.2.2.2.2.nul hf⟩
        clear hf
        go_wp2_with (first
          | (refine wpList_load_blk rfl 28 (.tmp 5) rfl w3.heap.size rfl 28 (recL r) 68 _ H10.out.2.2 rec_fields rfl size_rec Hrl.out ?_)
          | (refine wpList_store_blk rfl 28 (.tmp 2) (.tmp 67) rfl w.heap.size (recL r) rfl rfl 28 (recL rzero) 68 H10.out.1 size_rec Hrl.out rfl (recL_one _) ?_; intro w11 hB hO))
        exact bodyPost_ret (ret_rec2 rfl rfl hB rec_fields rfl size_rec Hrl.out) rfl ⟨by rw [Hfin.out]; rfl, H10.out.2.1.one hO (.inl (Nat.le_refl _))⟩
      · have Hfin : Hid (recFin s r e1 = (rzero, 6)) := hid (by unfold recFin; rw [if_neg (by simp [he2]), if_neg (fun h => hq h.2)])
        have hb : ((recS r).toList == s.toList) = false := toList_ne hq
        generalize recS r = z at HP2 hb
        clear hg hc hq he2
        go_wp2_with (first
          | (refine wpList_load_blk rfl 28 (.tmp 5) rfl w3.heap.size rfl 28 (recL r) 68 _ H9.out.2.2.2.2 rec_fields rfl size_rec Hrl.out ?_))
        refine (HP2.out _).mono ?_
        rintro e w10 ⟨rfl, hf⟩
        have H10 : Hid (Blk w10 w.heap.size 28 (recL rzero) ∧ Nul w w10 ∧ Blk w10 w3.heap.size 28 (recL r)) := hid ⟨H9.out.2.1.nul hf, H9.out.2.2.1.nul hf, H9.out.2.2.2.2.nul hf⟩
        clear hf
        go_wp2_with (first
          | (refine wpList_built rfl 28 _ rfl _ Hbz.out ?_)
          | (refine wpList_store_blk rfl 28 (.tmp 2) (.tmp 66) rfl w.heap.size (recL rzero) rfl rfl 28 (recL rzero) 68 H10.out.1 size_rec rfl rfl (recL_one _) ?_; intro w11 hB hO))
        exact bodyPost_ret (ret_rec2 rfl rfl hB rec_fields rfl size_rec rfl) rfl ⟨by rw [Hfin.out]; rfl, H10.out.2.1.one hO (.inl (Nat.le_refl _))⟩
    · have HP2 : Hid (∀ w, Calls Try.prog 9 #[.agg (recL r).toArray] w fun e w' => e = .returned (.tuple #[.string ⟨#[]⟩, .int .i64 2]) ∧ Nul w w') := hid (fun w => by have := HPut.out w; rw [hg, hc] at this; exact this)
      have Hfin : Hid (recFin s r e1 = (rzero, 6)) := hid (by unfold recFin; rw [if_neg (by simp [he2]), if_neg (fun h => by rw [hg] at h; cases h.1)])
      clear hg hc he2
      go_wp2_with (first
        | (refine wpList_load_blk rfl 28 (.tmp 5) rfl w3.heap.size rfl 28 (recL r) 68 _ H9.out.2.2.2.2 rec_fields rfl size_rec Hrl.out ?_))
      refine (HP2.out _).mono ?_
      rintro e w10 ⟨rfl, hf⟩
      have H10 : Hid (Blk w10 w.heap.size 28 (recL rzero) ∧ Nul w w10 ∧ Blk w10 w3.heap.size 28 (recL r)) := hid ⟨H9.out.2.1.nul hf, H9.out.2.2.1.nul hf, H9.out.2.2.2.2.nul hf⟩
      clear hf
      go_wp2_with (first
        | (refine wpList_built rfl 28 _ rfl _ Hbz.out ?_)
        | (refine wpList_store_blk rfl 28 (.tmp 2) (.tmp 66) rfl w.heap.size (recL rzero) rfl rfl 28 (recL rzero) 68 H10.out.1 size_rec rfl rfl (recL_one _) ?_; intro w11 hB hO))
      exact bodyPost_ret (ret_rec2 rfl rfl hB rec_fields rfl size_rec rfl) rfl ⟨by rw [Hfin.out]; rfl, H10.out.2.1.one hO (.inl (Nat.le_refl _))⟩
  · have g1 : (e1 != 0) = true := by simpa using he2
    have Hfin : Hid (recFin s r e1 = (rzero, e1)) := hid (by unfold recFin; rw [if_pos he2])
    clear he2
    go_wp2_with (first
      | (refine wpList_built rfl 28 _ rfl _ Hbz.out ?_)
      | (refine wpList_store_blk rfl 28 (.tmp 2) (.tmp 52) rfl w.heap.size (recL rzero) rfl rfl 28 (recL rzero) 68 H9.out.2.1 size_rec rfl rfl (recL_one _) ?_; intro w11 hB hO))
    exact bodyPost_ret (ret_rec2 rfl rfl hB rec_fields rfl size_rec rfl) rfl ⟨by rw [Hfin.out]; rfl, H9.out.2.2.1.one hO (.inl (Nat.le_refl _))⟩
set_option maxRecDepth 100000 in
set_option maxHeartbeats 1000000 in
theorem rec_Get_5 (s : ByteArray) (w : World) (hs : s.size ≤ 140737488351232) (s0 s1 : ByteArray) (e0 e1 : Int) (n : Nat)
    (h0 : numC s 0 1 = (5, s0, e0)) (h1 : numC s0 e0 4 = (n, s1, e1)) (hn : n < 4294967296) :
    Calls Try.prog 12 #[.string s] w fun e w' => e = .returned (.tuple #[.agg (recL (recFin s ⟨5, zero32, false, ⟨#[]⟩, zero32, n⟩ e1).1).toArray, .int .i64 (recFin s ⟨5, zero32, false, ⟨#[]⟩, zero32, n⟩ e1).2]) ∧ Nul w w' := by
  have hz := (zero_of_info zero_rec).1
  have hz0 : s0.size ≤ 140737488351232 := by have := numC_size s 0 1; rw [h0] at this; exact Nat.le_trans this hs
  obtain ⟨r, hr⟩ : ∃ r : Rcd, r = ⟨5, zero32, false, ⟨#[]⟩, zero32, n⟩ := ⟨_, rfl⟩
  rw [← hr]
  have hrk : r.ok := by rw [hr]; exact ⟨rfl, rfl⟩
  have HPut := hid (fun w => rec_Put r w hrk (by rw [hr]; show 0 ≤ _; omega))
  have hwr : IntKind.i64.wrap (n : Int) = (n : Int) := IntWalk.i64_in _ (by omega)
  have HR := hid hr
  have HZ := hid (And.intro hz0 True.intro)
  have HH := hid (And.intro h0 h1)
  have HQ := hid hrk
  have HB0 := hid (Blk.new w 28 (recL rzero))
  have Hs := hid hs
  have Hbk := hid (built_kind 5)
  clear hs hz0 hr hrk h0 h1 hn
  go_enter Try.func12, Try.ntmps12
  go_wp2_with fail
  refine (wide_On2 s _).mono ?_
  rintro e w1 ⟨rfl, hc1, hf1⟩
  have hbs : ((w.alloc (.cells (recL rzero).toArray 28)).heap.size) = w.heap.size + 1 := by simp
  rw [hbs] at hc1
  have H1 : Hid (CutAt w1 (w.heap.size + 1) s 0 ∧ Blk w1 w.heap.size 28 (recL rzero) ∧ Nul w w1) := hid ⟨hc1, HB0.out.nul hf1, ((Frm.refl (fun _ => False) w).alloc _).nul hf1⟩
  have Hlt := hid H1.out.1.lt
  clear hbs hc1 hf1
  have H2 : Hid (CutAt (w1.alloc (.cells #[.pointer (some ⟨w.heap.size + 1, 0, none⟩)] 67)) (w.heap.size + 1) s 0 ∧ Blk (w1.alloc (.cells #[.pointer (some ⟨w.heap.size + 1, 0, none⟩)] 67)) w.heap.size 28 (recL rzero) ∧ Nul w (w1.alloc (.cells #[.pointer (some ⟨w.heap.size + 1, 0, none⟩)] 67)) ∧ Blk (w1.alloc (.cells #[.pointer (some ⟨w.heap.size + 1, 0, none⟩)] 67)) w1.heap.size 67 [.pointer (some ⟨w.heap.size + 1, 0, none⟩)]) := hid ⟨Blk.alloc H1.out.1 _, H1.out.2.1.alloc _, H1.out.2.2.alloc _, Blk.new w1 _ [.pointer (some ⟨w.heap.size + 1, 0, none⟩)]⟩
  go_wp2_with fail
  have HN := hid (cut_Num (w.heap.size + 1) s 0 1 _ H2.out.1 Hs.out)
  rw [HH.out.1] at HN
  refine HN.out.mono ?_
  rintro e w3 ⟨rfl, hc3, hf3⟩
  have H3 : Hid (CutAt w3 (w.heap.size + 1) s0 e0 ∧ Blk w3 w.heap.size 28 (recL rzero) ∧ Nul w w3 ∧ Blk w3 w1.heap.size 67 [.pointer (some ⟨w.heap.size + 1, 0, none⟩)]) := hid ⟨hc3, H2.out.2.1.one hf3 (by omega), H2.out.2.2.1.one hf3 (.inl (by omega)), H2.out.2.2.2.one hf3 (by have := Hlt.out; omega)⟩
  have Hlt3 := hid (And.intro H3.out.2.2.2.lt (And.intro H3.out.2.1.lt H3.out.1.lt))
  clear hc3 hf3 HN
  go_wp2_with (first
    | (refine wpList_built rfl 28 _ rfl _ Hbk.out ?_)
    | (refine wpList_store_blk rfl 28 (.tmp 5) (.tmp 15) rfl w3.heap.size (recL ⟨5, zero32, false, ⟨#[]⟩, zero32, 0⟩) rfl rfl 28 (recL rzero) 68 (Blk.new w3 _ _) size_rec rfl rfl (recL_one _) ?_; intro w4 hB hO
       have H4 : Hid (CutAt w4 (w.heap.size + 1) s0 e0 ∧ Blk w4 w.heap.size 28 (recL rzero) ∧ Nul w w4 ∧ Blk w4 w1.heap.size 67 [.pointer (some ⟨w.heap.size + 1, 0, none⟩)] ∧ Blk w4 w3.heap.size 28 (recL ⟨5, zero32, false, ⟨#[]⟩, zero32, 0⟩)) := hid ⟨Blk.one (Blk.alloc H3.out.1 _) hO (by have := Hlt3.out; omega), (H3.out.2.1.alloc _).one hO (by have := Hlt3.out; omega), (H3.out.2.2.1.alloc _).one hO (.inl (by have := Hlt3.out; omega)), (H3.out.2.2.2.alloc _).one hO (by have := Hlt3.out; omega), hB⟩
       have c0 : w4.cell? ⟨w3.heap.size, 0, none⟩ = some (.int .i64 5) := H4.out.2.2.2.2.cell 0
       have c4 := H4.out.2.2.2.1.cell 0
       clear hB hO))
  have HG := hid (cut_Num (w.heap.size + 1) s0 e0 4 w4 H4.out.1 HZ.out.1)
  rw [HH.out.2] at HG
  refine HG.out.mono ?_
  rintro e w5 ⟨rfl, hc5, hf5⟩
  have H5 : Hid (CutAt w5 (w.heap.size + 1) s1 e1 ∧ Blk w5 w.heap.size 28 (recL rzero) ∧ Nul w w5 ∧ Blk w5 w1.heap.size 67 [.pointer (some ⟨w.heap.size + 1, 0, none⟩)] ∧ Blk w5 w3.heap.size 28 (recL ⟨5, zero32, false, ⟨#[]⟩, zero32, 0⟩)) := hid ⟨hc5, H4.out.2.1.one hf5 (by omega), H4.out.2.2.1.one hf5 (.inl (by omega)), H4.out.2.2.2.1.one hf5 (by have := Hlt.out; omega), H4.out.2.2.2.2.one hf5 (by have := Hlt3.out; omega)⟩
  have c67 : w5.cell? ⟨w3.heap.size, 67, none⟩ = some (.int .i64 0) := by rw [H5.out.2.2.2.2.cell, recL_n ⟨rfl, rfl⟩]
  have z67 := H5.out.2.2.2.2.frozen 67
  have H9 : Hid (CutAt (w5.setCell ⟨w3.heap.size, 67, none⟩ (.int .i64 n)) (w.heap.size + 1) s1 e1 ∧ Blk (w5.setCell ⟨w3.heap.size, 67, none⟩ (.int .i64 n)) w.heap.size 28 (recL rzero) ∧ Nul w (w5.setCell ⟨w3.heap.size, 67, none⟩ (.int .i64 n)) ∧ (w5.setCell ⟨w3.heap.size, 67, none⟩ (.int .i64 n)).cell? ⟨w1.heap.size, 0, none⟩ = some (.pointer (some ⟨w.heap.size + 1, 0, none⟩)) ∧ Blk (w5.setCell ⟨w3.heap.size, 67, none⟩ (.int .i64 n)) w3.heap.size 28 (recL r)) := hid (by
    have hl3 := Hlt3.out
    refine ⟨Blk.far H5.out.1 (by show w.heap.size + 1 ≠ w3.heap.size; omega) _, H5.out.2.1.far (by show w.heap.size ≠ w3.heap.size; omega) _, H5.out.2.2.1.setCell (.inl (by show w.heap.size ≤ w3.heap.size; omega)) _, (H5.out.2.2.2.1.far (by show w1.heap.size ≠ w3.heap.size; omega) _).cell 0, ?_⟩
    have h := H5.out.2.2.2.2.put 67 (.int .i64 n)
    rw [recL_setN ⟨rfl, rfl⟩] at h
    rw [HR.out]
    exact h)
  have c4' := H9.out.2.2.2.1
  clear hc5 hf5 HG c0 c4
  have HErr := hid (cut_Err (w.heap.size + 1) s1 e1 _ H9.out.1)
  go_wp2_with fail
  generalize (w5.setCell ⟨w3.heap.size, 67, none⟩ (.int .i64 n)) = w9 at H9 HErr c4' ⊢
  refine HErr.out.mono ?_
  rintro e w10 ⟨rfl, hw⟩
  subst hw
  have Hbz := hid built_zero
  have Hrl := hid (recL_length HQ.out)
  by_cases he2 : e1 = 0
  · have g1 : (e1 != 0) = false := by rw [he2]; rfl
    rcases recChk_cases r with ⟨hg, hc⟩ | ⟨hg, hc⟩
    · have HP2 : Hid (∀ w, Calls Try.prog 9 #[.agg (recL r).toArray] w fun e w' => e = .returned (.tuple #[.string (recS r), .int .i64 0]) ∧ Nul w w') := hid (fun w => by have := HPut.out w; rw [hg, hc] at this; exact this)
      by_cases hq : recS r = s
      · have Hfin : Hid (recFin s r e1 = (r, 0)) := hid (by unfold recFin; rw [if_neg (by simp [he2]), if_pos ⟨hg, hq⟩])
        have hb : ((recS r).toList == s.toList) = true := by rw [hq]; exact beq_self_eq_true _
        generalize recS r = z at HP2 hb
        clear hg hc hq he2
        go_wp2_with (first
          | (refine wpList_load_blk rfl 28 (.tmp 5) rfl w3.heap.size rfl 28 (recL r) 68 _ H9.out.2.2.2.2 rec_fields rfl size_rec Hrl.out ?_))
        refine (HP2.out _).mono ?_
        rintro e w10 ⟨rfl, hf⟩
        have H10 : Hid (Blk w10 w.heap.size 28 (recL rzero) ∧ Nul w w10 ∧ Blk w10 w3.heap.size 28 (recL r)) := hid ⟨H9.out.2.1.nul hf, H9.out.2.2.1.nul hf, H9.out.2.2.2.2.nul hf⟩
        clear hf
        go_wp2_with (first
          | (refine wpList_load_blk rfl 28 (.tmp 5) rfl w3.heap.size rfl 28 (recL r) 68 _ H10.out.2.2 rec_fields rfl size_rec Hrl.out ?_)
          | (refine wpList_store_blk rfl 28 (.tmp 2) (.tmp 67) rfl w.heap.size (recL r) rfl rfl 28 (recL rzero) 68 H10.out.1 size_rec Hrl.out rfl (recL_one _) ?_; intro w11 hB hO))
        exact bodyPost_ret (ret_rec2 rfl rfl hB rec_fields rfl size_rec Hrl.out) rfl ⟨by rw [Hfin.out]; rfl, H10.out.2.1.one hO (.inl (Nat.le_refl _))⟩
      · have Hfin : Hid (recFin s r e1 = (rzero, 6)) := hid (by unfold recFin; rw [if_neg (by simp [he2]), if_neg (fun h => hq h.2)])
        have hb : ((recS r).toList == s.toList) = false := toList_ne hq
        generalize recS r = z at HP2 hb
        clear hg hc hq he2
        go_wp2_with (first
          | (refine wpList_load_blk rfl 28 (.tmp 5) rfl w3.heap.size rfl 28 (recL r) 68 _ H9.out.2.2.2.2 rec_fields rfl size_rec Hrl.out ?_))
        refine (HP2.out _).mono ?_
        rintro e w10 ⟨rfl, hf⟩
        have H10 : Hid (Blk w10 w.heap.size 28 (recL rzero) ∧ Nul w w10 ∧ Blk w10 w3.heap.size 28 (recL r)) := hid ⟨H9.out.2.1.nul hf, H9.out.2.2.1.nul hf, H9.out.2.2.2.2.nul hf⟩
        clear hf
        go_wp2_with (first
          | (refine wpList_built rfl 28 _ rfl _ Hbz.out ?_)
          | (refine wpList_store_blk rfl 28 (.tmp 2) (.tmp 66) rfl w.heap.size (recL rzero) rfl rfl 28 (recL rzero) 68 H10.out.1 size_rec rfl rfl (recL_one _) ?_; intro w11 hB hO))
        exact bodyPost_ret (ret_rec2 rfl rfl hB rec_fields rfl size_rec rfl) rfl ⟨by rw [Hfin.out]; rfl, H10.out.2.1.one hO (.inl (Nat.le_refl _))⟩
    · have HP2 : Hid (∀ w, Calls Try.prog 9 #[.agg (recL r).toArray] w fun e w' => e = .returned (.tuple #[.string ⟨#[]⟩, .int .i64 2]) ∧ Nul w w') := hid (fun w => by have := HPut.out w; rw [hg, hc] at this; exact this)
      have Hfin : Hid (recFin s r e1 = (rzero, 6)) := hid (by unfold recFin; rw [if_neg (by simp [he2]), if_neg (fun h => by rw [hg] at h; cases h.1)])
      clear hg hc he2
      go_wp2_with (first
        | (refine wpList_load_blk rfl 28 (.tmp 5) rfl w3.heap.size rfl 28 (recL r) 68 _ H9.out.2.2.2.2 rec_fields rfl size_rec Hrl.out ?_))
      refine (HP2.out _).mono ?_
      rintro e w10 ⟨rfl, hf⟩
      have H10 : Hid (Blk w10 w.heap.size 28 (recL rzero) ∧ Nul w w10 ∧ Blk w10 w3.heap.size 28 (recL r)) := hid ⟨H9.out.2.1.nul hf, H9.out.2.2.1.nul hf, H9.out.2.2.2.2.nul hf⟩
      clear hf
      go_wp2_with (first
        | (refine wpList_built rfl 28 _ rfl _ Hbz.out ?_)
        | (refine wpList_store_blk rfl 28 (.tmp 2) (.tmp 66) rfl w.heap.size (recL rzero) rfl rfl 28 (recL rzero) 68 H10.out.1 size_rec rfl rfl (recL_one _) ?_; intro w11 hB hO))
      exact bodyPost_ret (ret_rec2 rfl rfl hB rec_fields rfl size_rec rfl) rfl ⟨by rw [Hfin.out]; rfl, H10.out.2.1.one hO (.inl (Nat.le_refl _))⟩
  · have g1 : (e1 != 0) = true := by simpa using he2
    have Hfin : Hid (recFin s r e1 = (rzero, e1)) := hid (by unfold recFin; rw [if_pos he2])
    clear he2
    go_wp2_with (first
      | (refine wpList_built rfl 28 _ rfl _ Hbz.out ?_)
      | (refine wpList_store_blk rfl 28 (.tmp 2) (.tmp 52) rfl w.heap.size (recL rzero) rfl rfl 28 (recL rzero) 68 H9.out.2.1 size_rec rfl rfl (recL_one _) ?_; intro w11 hB hO))
    exact bodyPost_ret (ret_rec2 rfl rfl hB rec_fields rfl size_rec rfl) rfl ⟨by rw [Hfin.out]; rfl, H9.out.2.2.1.one hO (.inl (Nat.le_refl _))⟩
set_option maxRecDepth 100000 in
set_option maxHeartbeats 1000000 in
theorem rec_Get_no (s : ByteArray) (w : World) (hs : s.size ≤ 140737488351232) (kd : Nat) (s0 : ByteArray) (e1 : Int)
    (h0 : numC s 0 1 = (kd, s0, e1)) (hkd : kd < 256) (h1 : kd ≠ 1) (h2 : kd ≠ 2) (h3 : kd ≠ 3) (h4 : kd ≠ 4) (h5 : kd ≠ 5) :
    Calls Try.prog 12 #[.string s] w fun e w' => e = .returned (.tuple #[.agg (recL (recFin s ⟨kd, zero32, false, ⟨#[]⟩, zero32, 0⟩ e1).1).toArray, .int .i64 (recFin s ⟨kd, zero32, false, ⟨#[]⟩, zero32, 0⟩ e1).2]) ∧ Nul w w' := by
  have hz := (zero_of_info zero_rec).1
  obtain ⟨r, hr⟩ : ∃ r : Rcd, r = ⟨kd, zero32, false, ⟨#[]⟩, zero32, 0⟩ := ⟨_, rfl⟩
  rw [← hr]
  have hrk : r.ok := by rw [hr]; exact ⟨rfl, rfl⟩
  have HPut := hid (fun w => rec_Put r w hrk (by rw [hr]; show 0 ≤ _; omega))
  have hwr : IntKind.i64.wrap (kd : Int) = (kd : Int) := IntWalk.i64_in _ (by omega)
  have t1 : ((kd : Int) == 1) = false := by simp only [beq_eq_false_iff_ne, ne_eq]; omega
  have t2 : ((kd : Int) == 2) = false := by simp only [beq_eq_false_iff_ne, ne_eq]; omega
  have t3 : ((kd : Int) == 3) = false := by simp only [beq_eq_false_iff_ne, ne_eq]; omega
  have t4 : ((kd : Int) == 4) = false := by simp only [beq_eq_false_iff_ne, ne_eq]; omega
  have t5 : ((kd : Int) == 5) = false := by simp only [beq_eq_false_iff_ne, ne_eq]; omega
  have HR := hid hr
  have HH := hid (And.intro h0 True.intro)
  have HQ := hid hrk
  have HB0 := hid (Blk.new w 28 (recL rzero))
  have Hs := hid hs
  have Hbk := hid (built_kind (kd : Int))
  clear hs hr hrk h0 hkd h1 h2 h3 h4 h5
  go_enter Try.func12, Try.ntmps12
  go_wp2_with fail
  refine (wide_On2 s _).mono ?_
  rintro e w1 ⟨rfl, hc1, hf1⟩
  have hbs : ((w.alloc (.cells (recL rzero).toArray 28)).heap.size) = w.heap.size + 1 := by simp
  rw [hbs] at hc1
  have H1 : Hid (CutAt w1 (w.heap.size + 1) s 0 ∧ Blk w1 w.heap.size 28 (recL rzero) ∧ Nul w w1) := hid ⟨hc1, HB0.out.nul hf1, ((Frm.refl (fun _ => False) w).alloc _).nul hf1⟩
  have Hlt := hid H1.out.1.lt
  clear hbs hc1 hf1
  have H2 : Hid (CutAt (w1.alloc (.cells #[.pointer (some ⟨w.heap.size + 1, 0, none⟩)] 67)) (w.heap.size + 1) s 0 ∧ Blk (w1.alloc (.cells #[.pointer (some ⟨w.heap.size + 1, 0, none⟩)] 67)) w.heap.size 28 (recL rzero) ∧ Nul w (w1.alloc (.cells #[.pointer (some ⟨w.heap.size + 1, 0, none⟩)] 67)) ∧ Blk (w1.alloc (.cells #[.pointer (some ⟨w.heap.size + 1, 0, none⟩)] 67)) w1.heap.size 67 [.pointer (some ⟨w.heap.size + 1, 0, none⟩)]) := hid ⟨Blk.alloc H1.out.1 _, H1.out.2.1.alloc _, H1.out.2.2.alloc _, Blk.new w1 _ [.pointer (some ⟨w.heap.size + 1, 0, none⟩)]⟩
  go_wp2_with fail
  have HN := hid (cut_Num (w.heap.size + 1) s 0 1 _ H2.out.1 Hs.out)
  rw [HH.out.1] at HN
  refine HN.out.mono ?_
  rintro e w3 ⟨rfl, hc3, hf3⟩
  have H3 : Hid (CutAt w3 (w.heap.size + 1) s0 e1 ∧ Blk w3 w.heap.size 28 (recL rzero) ∧ Nul w w3 ∧ Blk w3 w1.heap.size 67 [.pointer (some ⟨w.heap.size + 1, 0, none⟩)]) := hid ⟨hc3, H2.out.2.1.one hf3 (by omega), H2.out.2.2.1.one hf3 (.inl (by omega)), H2.out.2.2.2.one hf3 (by have := Hlt.out; omega)⟩
  have Hlt3 := hid (And.intro H3.out.2.2.2.lt (And.intro H3.out.2.1.lt H3.out.1.lt))
  clear hc3 hf3 HN
  go_wp2_with (first
    | (refine wpList_built rfl 28 _ rfl _ Hbk.out ?_)
    | (refine wpList_store_blk rfl 28 (.tmp 5) (.tmp 15) rfl w3.heap.size (recL ⟨(kd : Int), zero32, false, ⟨#[]⟩, zero32, 0⟩) rfl rfl 28 (recL rzero) 68 (Blk.new w3 _ _) size_rec rfl rfl (recL_one _) ?_; intro w4 hB hO
       have H4 : Hid (CutAt w4 (w.heap.size + 1) s0 e1 ∧ Blk w4 w.heap.size 28 (recL rzero) ∧ Nul w w4 ∧ Blk w4 w1.heap.size 67 [.pointer (some ⟨w.heap.size + 1, 0, none⟩)] ∧ Blk w4 w3.heap.size 28 (recL ⟨(kd : Int), zero32, false, ⟨#[]⟩, zero32, 0⟩)) := hid ⟨Blk.one (Blk.alloc H3.out.1 _) hO (by have := Hlt3.out; omega), (H3.out.2.1.alloc _).one hO (by have := Hlt3.out; omega), (H3.out.2.2.1.alloc _).one hO (.inl (by have := Hlt3.out; omega)), (H3.out.2.2.2.alloc _).one hO (by have := Hlt3.out; omega), hB⟩
       have c0 : w4.cell? ⟨w3.heap.size, 0, none⟩ = some (.int .i64 (kd : Int)) := H4.out.2.2.2.2.cell 0
       have H9 : Hid (CutAt w4 (w.heap.size + 1) s0 e1 ∧ Blk w4 w.heap.size 28 (recL rzero) ∧ Nul w w4 ∧ w4.cell? ⟨w1.heap.size, 0, none⟩ = some (.pointer (some ⟨w.heap.size + 1, 0, none⟩)) ∧ Blk w4 w3.heap.size 28 (recL r)) := hid ⟨H4.out.1, H4.out.2.1, H4.out.2.2.1, H4.out.2.2.2.1.cell 0, by rw [HR.out]; exact H4.out.2.2.2.2⟩
       have c4 := H9.out.2.2.2.1
       clear hB hO))
  have HErr := hid (cut_Err (w.heap.size + 1) s0 e1 w4 H9.out.1)
  refine HErr.out.mono ?_
  rintro e w10 ⟨rfl, hw⟩
  subst hw
  have Hbz := hid built_zero
  have Hrl := hid (recL_length HQ.out)
  by_cases he2 : e1 = 0
  · have g1 : (e1 != 0) = false := by rw [he2]; rfl
    rcases recChk_cases r with ⟨hg, hc⟩ | ⟨hg, hc⟩
    · have HP2 : Hid (∀ w, Calls Try.prog 9 #[.agg (recL r).toArray] w fun e w' => e = .returned (.tuple #[.string (recS r), .int .i64 0]) ∧ Nul w w') := hid (fun w => by have := HPut.out w; rw [hg, hc] at this; exact this)
      by_cases hq : recS r = s
      · have Hfin : Hid (recFin s r e1 = (r, 0)) := hid (by unfold recFin; rw [if_neg (by simp [he2]), if_pos ⟨hg, hq⟩])
        have hb : ((recS r).toList == s.toList) = true := by rw [hq]; exact beq_self_eq_true _
        generalize recS r = z at HP2 hb
        clear hg hc hq he2
        go_wp2_with (first
          | (refine wpList_load_blk rfl 28 (.tmp 5) rfl w3.heap.size rfl 28 (recL r) 68 _ H9.out.2.2.2.2 rec_fields rfl size_rec Hrl.out ?_))
        refine (HP2.out _).mono ?_
        rintro e w10 ⟨rfl, hf⟩
        have H10 : Hid (Blk w10 w.heap.size 28 (recL rzero) ∧ Nul w w10 ∧ Blk w10 w3.heap.size 28 (recL r)) := hid ⟨H9.out.2.1.nul hf, H9.out.2.2.1.nul hf, H9.out.2.2.2.2.nul hf⟩
        clear hf
        go_wp2_with (first
          | (refine wpList_load_blk rfl 28 (.tmp 5) rfl w3.heap.size rfl 28 (recL r) 68 _ H10.out.2.2 rec_fields rfl size_rec Hrl.out ?_)
          | (refine wpList_store_blk rfl 28 (.tmp 2) (.tmp 67) rfl w.heap.size (recL r) rfl rfl 28 (recL rzero) 68 H10.out.1 size_rec Hrl.out rfl (recL_one _) ?_; intro w11 hB hO))
        exact bodyPost_ret (ret_rec2 rfl rfl hB rec_fields rfl size_rec Hrl.out) rfl ⟨by rw [Hfin.out]; rfl, H10.out.2.1.one hO (.inl (Nat.le_refl _))⟩
      · have Hfin : Hid (recFin s r e1 = (rzero, 6)) := hid (by unfold recFin; rw [if_neg (by simp [he2]), if_neg (fun h => hq h.2)])
        have hb : ((recS r).toList == s.toList) = false := toList_ne hq
        generalize recS r = z at HP2 hb
        clear hg hc hq he2
        go_wp2_with (first
          | (refine wpList_load_blk rfl 28 (.tmp 5) rfl w3.heap.size rfl 28 (recL r) 68 _ H9.out.2.2.2.2 rec_fields rfl size_rec Hrl.out ?_))
        refine (HP2.out _).mono ?_
        rintro e w10 ⟨rfl, hf⟩
        have H10 : Hid (Blk w10 w.heap.size 28 (recL rzero) ∧ Nul w w10 ∧ Blk w10 w3.heap.size 28 (recL r)) := hid ⟨H9.out.2.1.nul hf, H9.out.2.2.1.nul hf, H9.out.2.2.2.2.nul hf⟩
        clear hf
        go_wp2_with (first
          | (refine wpList_built rfl 28 _ rfl _ Hbz.out ?_)
          | (refine wpList_store_blk rfl 28 (.tmp 2) (.tmp 66) rfl w.heap.size (recL rzero) rfl rfl 28 (recL rzero) 68 H10.out.1 size_rec rfl rfl (recL_one _) ?_; intro w11 hB hO))
        exact bodyPost_ret (ret_rec2 rfl rfl hB rec_fields rfl size_rec rfl) rfl ⟨by rw [Hfin.out]; rfl, H10.out.2.1.one hO (.inl (Nat.le_refl _))⟩
    · have HP2 : Hid (∀ w, Calls Try.prog 9 #[.agg (recL r).toArray] w fun e w' => e = .returned (.tuple #[.string ⟨#[]⟩, .int .i64 2]) ∧ Nul w w') := hid (fun w => by have := HPut.out w; rw [hg, hc] at this; exact this)
      have Hfin : Hid (recFin s r e1 = (rzero, 6)) := hid (by unfold recFin; rw [if_neg (by simp [he2]), if_neg (fun h => by rw [hg] at h; cases h.1)])
      clear hg hc he2
      go_wp2_with (first
        | (refine wpList_load_blk rfl 28 (.tmp 5) rfl w3.heap.size rfl 28 (recL r) 68 _ H9.out.2.2.2.2 rec_fields rfl size_rec Hrl.out ?_))
      refine (HP2.out _).mono ?_
      rintro e w10 ⟨rfl, hf⟩
      have H10 : Hid (Blk w10 w.heap.size 28 (recL rzero) ∧ Nul w w10 ∧ Blk w10 w3.heap.size 28 (recL r)) := hid ⟨H9.out.2.1.nul hf, H9.out.2.2.1.nul hf, H9.out.2.2.2.2.nul hf⟩
      clear hf
      go_wp2_with (first
        | (refine wpList_built rfl 28 _ rfl _ Hbz.out ?_)
        | (refine wpList_store_blk rfl 28 (.tmp 2) (.tmp 66) rfl w.heap.size (recL rzero) rfl rfl 28 (recL rzero) 68 H10.out.1 size_rec rfl rfl (recL_one _) ?_; intro w11 hB hO))
      exact bodyPost_ret (ret_rec2 rfl rfl hB rec_fields rfl size_rec rfl) rfl ⟨by rw [Hfin.out]; rfl, H10.out.2.1.one hO (.inl (Nat.le_refl _))⟩
  · have g1 : (e1 != 0) = true := by simpa using he2
    have Hfin : Hid (recFin s r e1 = (rzero, e1)) := hid (by unfold recFin; rw [if_pos he2])
    clear he2
    go_wp2_with (first
      | (refine wpList_built rfl 28 _ rfl _ Hbz.out ?_)
      | (refine wpList_store_blk rfl 28 (.tmp 2) (.tmp 52) rfl w.heap.size (recL rzero) rfl rfl 28 (recL rzero) 68 H9.out.2.1 size_rec rfl rfl (recL_one _) ?_; intro w11 hB hO))
    exact bodyPost_ret (ret_rec2 rfl rfl hB rec_fields rfl size_rec rfl) rfl ⟨by rw [Hfin.out]; rfl, H9.out.2.2.1.one hO (.inl (Nat.le_refl _))⟩

theorem rec_Get (s : ByteArray) (w : World) (hs : s.size ≤ 140737488351232) :
    Calls Try.prog 12 #[.string s] w fun e w' => e = .returned (.tuple #[.agg (recL (recGet s).1).toArray, .int .i64 (recGet s).2]) ∧ Nul w w' := by
  unfold recGet recParse
  have hlt := numC_lt s 0 1 (by omega) (by omega)
  generalize h0 : numC s 0 1 = p0 at hlt ⊢
  obtain ⟨kd, s0, e0⟩ := p0
  simp only at hlt ⊢
  by_cases g12 : kd = 1 ∨ kd = 2
  · rw [if_pos g12]
    generalize h1 : takeC s0 e0 32 = p1
    obtain ⟨x1, s1, e1⟩ := p1
    simp only
    generalize h2 : takeC s1 e1 (max (s1.size : Int) 1) = p2
    obtain ⟨x2, s2, e2⟩ := p2
    simp only
    generalize h3 : entGet x2 = p3
    obtain ⟨d, v, c⟩ := p3
    rcases g12 with rfl | rfl
    · exact rec_Get_1 s w hs s0 x1 s1 x2 s2 v e0 e1 e2 c d h0 h1 h2 h3
    · exact rec_Get_2 s w hs s0 x1 s1 x2 s2 v e0 e1 e2 c d h0 h1 h2 h3
  rw [if_neg g12]
  by_cases g5 : kd = 5
  · rw [if_pos g5]
    subst g5
    have hn := numC_lt s0 e0 4 (by omega) (by omega)
    generalize h1 : numC s0 e0 4 = p1 at hn ⊢
    obtain ⟨n, s1, e1⟩ := p1
    exact rec_Get_5 s w hs s0 s1 e0 e1 n h0 h1 (by simpa using hn)
  rw [if_neg g5]
  by_cases g34 : kd = 3 ∨ kd = 4
  · rw [if_pos g34]
    generalize h1 : takeC s0 e0 32 = p1
    obtain ⟨x1, s1, e1⟩ := p1
    rcases g34 with rfl | rfl
    · exact rec_Get_3 s w hs s0 x1 s1 e0 e1 h0 h1
    · exact rec_Get_4 s w hs s0 x1 s1 e0 e1 h0 h1
  rw [if_neg g34]
  exact rec_Get_no s w hs kd s0 e0 h0 (by simpa using hlt) (fun h => g12 (.inl h)) (fun h => g12 (.inr h)) (fun h => g34 (.inl h)) (fun h => g34 (.inr h)) g5
end Go.Proofs.Ythocjhiapngacaa
