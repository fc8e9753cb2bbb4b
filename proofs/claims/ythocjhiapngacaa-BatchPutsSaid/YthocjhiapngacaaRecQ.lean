/-
  Walks: a record got, the document's.
-/
import Derived.Test.YthocjhiapngacaaRecP
set_option linter.all false
namespace Go.Proofs.Ythocjhiapngacaa
open Go.RowKit

theorem index_head (b : UInt8) (l : List UInt8) (w : World) : (Instr.index 9 (.string (bs (b :: l))) (.int .i64 0)).run Try.prog w = .ok (.int .u8 b.toNat) w := index_str (bs (b :: l)) 0 (by rw [bs_size]; simp) w
theorem refGet_cons (b : UInt8) (l : List UInt8) : refGet (bs (b :: l)) =
    if b.toNat = 1 ∨ b.toNat = 2 then (if l.length + 1 < 34 then (rzero, 5) else if (entGet (bs (l.drop 32))).2.2 ≠ 0 then (rzero, 6) else (⟨b.toNat, l.take 32, (entGet (bs (l.drop 32))).1, (entGet (bs (l.drop 32))).2.1, zero32, 0⟩, 0))
    else if b.toNat = 3 ∨ b.toNat = 4 then (if l.length + 1 < 33 then (rzero, 5) else recFin (bs (b :: l)) ⟨b.toNat, zero32, false, ⟨#[]⟩, l.take 32, 0⟩ 0)
    else if b.toNat = 5 then (if l.length + 1 < 5 then (rzero, 5) else recFin (bs (b :: l)) ⟨5, zero32, false, ⟨#[]⟩, zero32, wval (bs (l.take 4))⟩ 0)
    else (rzero, 6) := by
  unfold refGet
  simp only [bs_size, bs_toList, bs_extract, List.length_cons, List.getD_cons_zero, List.drop_succ_cons, List.drop_zero, Nat.add_sub_cancel]
  rw [if_neg (by omega), show l.length + 1 - 33 = (l.drop 32).length by rw [List.length_drop]; omega, List.take_length, List.take_length]
theorem bs_tail (b : UInt8) (l : List UInt8) : (bs (b :: l)).extract 1 (bs (b :: l)).size = bs l := by
  rw [bs_extract, bs_size]
  simp
theorem bs_tail33 (b : UInt8) (l : List UInt8) : (bs (b :: l)).extract 33 (bs (b :: l)).size = bs (l.drop 32) := by
  rw [bs_extract, bs_size, List.drop_succ_cons, List.take_of_length_le (by simp)]
theorem bs_mid5 (b : UInt8) (l : List UInt8) : (bs (b :: l)).extract 1 5 = bs (l.take 4) := by
  rw [bs_extract]
  simp

set_option maxRecDepth 100000 in
set_option maxHeartbeats 1000000 in
theorem ref_Get_0 (b : UInt8) (l : List UInt8) (w : World) (hs : l.length ≤ 140737488350000) (hb : b.toNat = 0) :
    Calls Try.prog 14 #[.string (bs (b :: l))] w fun e w' => e = .returned (.tuple #[.agg (recL (refGet (bs (b :: l))).1).toArray, .int .i64 (refGet (bs (b :: l))).2]) ∧ Nul w w' := by
  have hfin := refGet_cons b l
  rw [hb] at hfin
  have hix := index_head b l
  rw [hb] at hix
  have hsz : (bs (b :: l)).size = l.length + 1 := by rw [bs_size]; rfl
  obtain ⟨s, hs0⟩ : ∃ s, s = bs (b :: l) := ⟨_, rfl⟩
  rw [← hs0] at hfin hix hsz ⊢
  have hz := (zero_of_info zero_rec).1
  have hn1 := ne_empty (v := s) (by omega)
  have hn2 := toList_isEmpty (v := s) (by omega)
  have Hbk := hid (built_kind 0)
  have Hbz := hid built_zero
  have HB0 := hid (Blk.new w 28 (recL rzero))
  have HR0 : Hid (∀ o, Blk ((w.alloc o).alloc (.cells (recL rzero).toArray 28)) (w.heap.size + 1) 28 (recL rzero)) := hid (fun o => Blk.new_at (w.alloc o) 28 (recL rzero) (by simp))
  have HN0 : Hid (∀ o o', Nul w ((w.alloc o).alloc o')) := hid (fun o o' => ((Frm.refl _ w).alloc o).alloc o')
  rw [if_neg (by omega), if_neg (by omega), if_neg (by omega)] at hfin
  have HF := hid hfin
  obtain ⟨r, hr⟩ : ∃ r : Rcd, r = ⟨0, zero32, false, ⟨#[]⟩, zero32, 0⟩ := ⟨_, rfl⟩
  have HQ : Hid r.ok := hid (by rw [hr]; exact ⟨rfl, rfl⟩)
  have Hrl := hid (recL_length HQ.out)
  have HG : Hid (recGood r = false) := hid (by rw [hr]; exact good_no _ (by simp only; omega) (by simp only; omega) (by simp only; omega) (by simp only; omega) (by simp only; omega))
  have Hv : Hid (r.val.size ≤ 9223372036854775807) := hid (by rw [hr]; show 0 ≤ _; omega)
  have HR := hid hr
  clear hfin hs0 hb hr
  go_enter Try.func14, Try.ntmps14
  go_wp2_with (first
    | (refine wpList_built rfl 28 _ rfl _ Hbk.out ?_)
    | (refine wpList_built rfl 28 _ rfl _ Hbz.out ?_)
    | (refine wpList_store_blk rfl 28 (.tmp 4) (.tmp 13) rfl (w.heap.size + 1) (recL ⟨0, zero32, false, ⟨#[]⟩, zero32, 0⟩) rfl rfl 28 (recL rzero) 68 (HR0.out _) size_rec rfl rfl (recL_one _) ?_; intro w1 hB hO
       have H1 : Hid (Blk w1 w.heap.size 28 (recL rzero) ∧ Nul w w1 ∧ Blk w1 (w.heap.size + 1) 28 (recL ⟨0, zero32, false, ⟨#[]⟩, zero32, 0⟩)) := hid ⟨(HB0.out.alloc _).one hO (by omega), (HN0.out _ _).one hO (.inl (by omega)), hB⟩
       have c0 : w1.cell? ⟨w.heap.size + 1, 0, none⟩ = some (.int .i64 0) := H1.out.2.2.cell 0
       have Hlt := hid H1.out.2.2.lt
       clear hB hO)
    | (refine wpList_load_blk rfl 28 (.tmp 4) rfl (w.heap.size + 1) rfl 28 (recL r) 68 _ (by rw [HR.out]; exact H1.out.2.2) rec_fields rfl size_rec Hrl.out ?_))
  have H3 : Hid (Blk w1 w.heap.size 28 (recL rzero) ∧ Nul w w1 ∧ Blk w1 (w.heap.size + 1) 28 (recL r)) := hid ⟨H1.out.1, H1.out.2.1, by rw [HR.out]; exact H1.out.2.2⟩
  have HM := hid (fun w => ref_May r w HQ.out Hv.out)
  rw [HG.out] at HM
  refine (HM.out _).mono ?_
  rintro e w10 ⟨rfl, hf⟩
  have H10 : Hid (Blk w10 w.heap.size 28 (recL rzero) ∧ Nul w w10 ∧ Blk w10 (w.heap.size + 1) 28 (recL r)) := hid ⟨H3.out.1.nul hf, H3.out.2.1.nul hf, H3.out.2.2.nul hf⟩
  clear hf
  go_wp2_with (first
    | (refine wpList_built rfl 28 _ rfl _ Hbz.out ?_)
    | (refine wpList_store_blk rfl 28 (.tmp 2) (.tmp 79) rfl w.heap.size (recL rzero) rfl rfl 28 (recL rzero) 68 H10.out.1 size_rec rfl rfl (recL_one _) ?_; intro w12 hB hO))
  exact bodyPost_ret (ret_rec2 rfl rfl hB rec_fields rfl size_rec rfl) rfl ⟨by rw [HF.out]; rfl, H10.out.2.1.one hO (.inl (Nat.le_refl _))⟩
set_option maxRecDepth 100000 in
set_option maxHeartbeats 1000000 in
theorem ref_Get_1 (b : UInt8) (l : List UInt8) (w : World) (hs : l.length ≤ 140737488350000) (hb : b.toNat = 1) :
    Calls Try.prog 14 #[.string (bs (b :: l))] w fun e w' => e = .returned (.tuple #[.agg (recL (refGet (bs (b :: l))).1).toArray, .int .i64 (refGet (bs (b :: l))).2]) ∧ Nul w w' := by
  have hfin := refGet_cons b l
  rw [hb] at hfin
  have hix := index_head b l
  rw [hb] at hix
  have hsz : (bs (b :: l)).size = l.length + 1 := by rw [bs_size]; rfl
  have ht := bs_tail b l
  have ht33 := bs_tail33 b l
  rw [hsz] at ht ht33
  obtain ⟨s, hs0⟩ : ∃ s, s = bs (b :: l) := ⟨_, rfl⟩
  rw [← hs0] at hfin hix hsz ht ht33 ⊢
  have hz := (zero_of_info zero_rec).1
  have hn1 := ne_empty (v := s) (by omega)
  have hn2 := toList_isEmpty (v := s) (by omega)
  have Hbk := hid (built_kind 1)
  have Hbz := hid built_zero
  have HB0 := hid (Blk.new w 28 (recL rzero))
  have HR0 : Hid (∀ o, Blk ((w.alloc o).alloc (.cells (recL rzero).toArray 28)) (w.heap.size + 1) 28 (recL rzero)) := hid (fun o => Blk.new_at (w.alloc o) 28 (recL rzero) (by simp))
  have HN0 : Hid (∀ o o', Nul w ((w.alloc o).alloc o')) := hid (fun o o' => ((Frm.refl _ w).alloc o).alloc o')
  rw [if_pos (by decide)] at hfin
  by_cases hl : l.length + 1 < 34
  · rw [if_pos hl] at hfin
    have HF := hid hfin
    clear hfin hs0 hb
    go_enter Try.func14, Try.ntmps14
    go_wp2_with (first
      | (refine wpList_built rfl 28 _ rfl _ Hbk.out ?_)
      | (refine wpList_built rfl 28 _ rfl _ Hbz.out ?_)
      | (refine wpList_store_blk rfl 28 (.tmp 4) (.tmp 13) rfl (w.heap.size + 1) (recL ⟨1, zero32, false, ⟨#[]⟩, zero32, 0⟩) rfl rfl 28 (recL rzero) 68 (HR0.out _) size_rec rfl rfl (recL_one _) ?_; intro w1 hB hO
         have H1 : Hid (Blk w1 w.heap.size 28 (recL rzero) ∧ Nul w w1 ∧ Blk w1 (w.heap.size + 1) 28 (recL ⟨1, zero32, false, ⟨#[]⟩, zero32, 0⟩)) := hid ⟨(HB0.out.alloc _).one hO (by omega), (HN0.out _ _).one hO (.inl (by omega)), hB⟩
         have c0 : w1.cell? ⟨w.heap.size + 1, 0, none⟩ = some (.int .i64 1) := H1.out.2.2.cell 0
         have Hlt := hid H1.out.2.2.lt
         clear hB hO)
      | (refine wpList_store_blk rfl 28 (.tmp 2) (.tmp 25) rfl w.heap.size (recL rzero) rfl rfl 28 (recL rzero) 68 H1.out.1 size_rec rfl rfl (recL_one _) ?_; intro w2 hB hO))
    exact bodyPost_ret (ret_rec2 rfl rfl hB rec_fields rfl size_rec rfl) rfl ⟨by rw [HF.out]; rfl, H1.out.2.1.one hO (.inl (Nat.le_refl _))⟩
  · rw [if_neg hl] at hfin
    have Hk : Hid ((l.take 32).length = 32) := hid (by simp; omega)
    have Hkey := hid (fun w => ref_key (bs l) w (by rw [bs_size]; omega) (by rw [bs_size]; omega))
    rw [bs_toList] at Hkey
    obtain ⟨k, hk⟩ : ∃ k, l.take 32 = k := ⟨_, rfl⟩
    rw [hk] at hfin Hk Hkey
    have Hent := hid (fun w => ref_EGet (bs (l.drop 32)) w (by rw [bs_size]; simp; omega))
    generalize hx : entGet (bs (l.drop 32)) = x at hfin Hent
    obtain ⟨d, v, c⟩ := x
    simp only at hfin Hent
    have hze := (zero_of_info zero_ent).1
    have Hfin := hid hfin
    have HKL : Hid ((Try.prog.info? 23).map (·.size) = some (keyL k).length) := hid (by rw [size_key, keyL_length, Hk.out])
    have HKN : Hid (1 + (keyL k).length ≤ (recL ⟨1, zero32, false, ⟨#[]⟩, zero32, 0⟩).length) := hid (by rw [keyL_length, Hk.out, recL_length ⟨rfl, rfl⟩]; omega)
    clear hfin hs0 hb hk hx
    go_enter Try.func14, Try.ntmps14
    go_wp2_with (first
      | (refine wpList_built rfl 28 _ rfl _ Hbk.out ?_)
      | (refine wpList_built rfl 28 _ rfl _ Hbz.out ?_)
      | (refine wpList_store_blk rfl 28 (.tmp 4) (.tmp 13) rfl (w.heap.size + 1) (recL ⟨1, zero32, false, ⟨#[]⟩, zero32, 0⟩) rfl rfl 28 (recL rzero) 68 (HR0.out _) size_rec rfl rfl (recL_one _) ?_; intro w1 hB hO
         have H1 : Hid (Blk w1 w.heap.size 28 (recL rzero) ∧ Nul w w1 ∧ Blk w1 (w.heap.size + 1) 28 (recL ⟨1, zero32, false, ⟨#[]⟩, zero32, 0⟩)) := hid ⟨(HB0.out.alloc _).one hO (by omega), (HN0.out _ _).one hO (.inl (by omega)), hB⟩
         have c0 : w1.cell? ⟨w.heap.size + 1, 0, none⟩ = some (.int .i64 1) := H1.out.2.2.cell 0
         have Hlt := hid H1.out.2.2.lt
         clear hB hO))
    refine (Hent.out _).mono ?_
    rintro e w2 ⟨rfl, hf⟩
    have H2 : Hid (Blk w2 w.heap.size 28 (recL rzero) ∧ Nul w w2 ∧ Blk w2 (w.heap.size + 1) 28 (recL ⟨1, zero32, false, ⟨#[]⟩, zero32, 0⟩)) := hid ⟨H1.out.1.nul hf, H1.out.2.1.nul hf, H1.out.2.2.nul hf⟩
    have Hlt2 := hid H2.out.2.2.lt
    clear hf c0
    by_cases hc : c = 0
    · have g1 : (c != 0) = false := by rw [hc]; rfl
      have HF : Hid (refGet s = (⟨1, k, d, v, zero32, 0⟩, 0)) := hid (by rw [Hfin.out, if_neg (by simp [hc])]; rfl)
      clear hc
      have H3 : Hid (Blk (w2.alloc (.cells #[.bool d, .string v] 25)) w.heap.size 28 (recL rzero) ∧ Nul w (w2.alloc (.cells #[.bool d, .string v] 25)) ∧ Blk (w2.alloc (.cells #[.bool d, .string v] 25)) (w.heap.size + 1) 28 (recL ⟨1, zero32, false, ⟨#[]⟩, zero32, 0⟩) ∧ Blk (w2.alloc (.cells #[.bool d, .string v] 25)) w2.heap.size 25 [.bool d, .string v]) := hid ⟨H2.out.1.alloc _, H2.out.2.1.alloc _, H2.out.2.2.alloc _, Blk.new w2 25 [.bool d, .string v]⟩
      go_wp2_with fail
      refine (Hkey.out _).mono ?_
      rintro e w3 ⟨rfl, hf⟩
      have H4 : Hid (Blk w3 w.heap.size 28 (recL rzero) ∧ Nul w w3 ∧ Blk w3 (w.heap.size + 1) 28 (recL ⟨1, zero32, false, ⟨#[]⟩, zero32, 0⟩) ∧ Blk w3 w2.heap.size 25 [.bool d, .string v]) := hid ⟨H3.out.1.nul hf, H3.out.2.1.nul hf, H3.out.2.2.1.nul hf, H3.out.2.2.2.nul hf⟩
      clear hf
      obtain ⟨r, hr⟩ : ∃ r : Rcd, r = ⟨1, k, false, ⟨#[]⟩, zero32, 0⟩ := ⟨_, rfl⟩
      have HQ : Hid r.ok := hid (by rw [hr]; exact ⟨Hk.out, rfl⟩)
      have HR := hid hr
      have HRf : Hid (recL { r with dead := d, val := v } = recL ⟨1, k, d, v, zero32, 0⟩) := hid (by rw [hr])
      have HQ2 : Hid ((recL ⟨1, k, d, v, zero32, 0⟩).length = 68) := hid (recL_length ⟨Hk.out, rfl⟩)
      have Hd := hid (recL_dead HQ.out)
      have Hvl := hid (recL_val HQ.out)
      obtain ⟨rd, hrd⟩ : ∃ rd, r.dead = rd := ⟨_, rfl⟩
      obtain ⟨rv, hrv⟩ : ∃ rv, r.val = rv := ⟨_, rfl⟩
      rw [hrd] at Hd
      rw [hrv] at Hvl
      clear hr hrd hrv
      go_wp2_with (first
        | (refine wpList_store_part rfl 23 (.tmp 38) (.tmp 37) rfl (w.heap.size + 1) 1 (keyL k) rfl rfl 28 _ H4.out.2.2.1 HKL.out HKN.out (keyL_one _) ?_; intro w4 hB hO
           rw [recL_setKey ⟨rfl, rfl⟩ Hk.out] at hB
           have H5 : Hid (Blk w4 w.heap.size 28 (recL rzero) ∧ Nul w w4 ∧ Blk w4 (w.heap.size + 1) 28 (recL r) ∧ Blk w4 w2.heap.size 25 [.bool d, .string v]) := hid ⟨H4.out.1.one hO (by omega), H4.out.2.1.one hO (.inl (by omega)), by rw [HR.out]; exact hB, H4.out.2.2.2.one hO (by have := Hlt2.out; omega)⟩
           have e0 : w4.cell? ⟨w2.heap.size, 0, none⟩ = some (.bool d) := H5.out.2.2.2.cell 0
           have e1 : w4.cell? ⟨w2.heap.size, 1, none⟩ = some (.string v) := H5.out.2.2.2.cell 1
           have c33 : w4.cell? ⟨w.heap.size + 1, 33, none⟩ = some (.bool rd) := by rw [H5.out.2.2.1.cell]; exact Hd.out
           have c34 : w4.cell? ⟨w.heap.size + 1, 34, none⟩ = some (.string rv) := by rw [H5.out.2.2.1.cell]; exact Hvl.out
           have f33 := H5.out.2.2.1.frozen 33
           have f34 := H5.out.2.2.1.frozen 34
           have H6 : Hid (Blk ((w4.setCell ⟨w.heap.size + 1, 33, none⟩ (.bool d)).setCell ⟨w.heap.size + 1, 34, none⟩ (.string v)) w.heap.size 28 (recL rzero) ∧ Nul w ((w4.setCell ⟨w.heap.size + 1, 33, none⟩ (.bool d)).setCell ⟨w.heap.size + 1, 34, none⟩ (.string v)) ∧ Blk ((w4.setCell ⟨w.heap.size + 1, 33, none⟩ (.bool d)).setCell ⟨w.heap.size + 1, 34, none⟩ (.string v)) (w.heap.size + 1) 28 (recL ⟨1, k, d, v, zero32, 0⟩)) := hid ⟨(H5.out.1.far (by simp) _).far (by simp) _, (H5.out.2.1.setCell (.inl (by simp)) _).setCell (.inl (by simp)) _, by
             have := (H5.out.2.2.1.put 33 (.bool d)).put 34 (.string v)
             rw [recL_setDV HQ.out, HRf.out] at this
             exact this⟩
           clear hB hO)
        | (refine wpList_load_blk rfl 28 (.tmp 4) rfl (w.heap.size + 1) rfl 28 (recL ⟨1, k, d, v, zero32, 0⟩) 68 _ H6.out.2.2 rec_fields rfl size_rec HQ2.out ?_)
        | (refine wpList_store_blk rfl 28 (.tmp 2) (.tmp 41) rfl w.heap.size (recL ⟨1, k, d, v, zero32, 0⟩) rfl rfl 28 (recL rzero) 68 H6.out.1 size_rec HQ2.out rfl (recL_one _) ?_; intro w7 hB hO))
      exact bodyPost_ret (ret_rec2 rfl rfl hB rec_fields rfl size_rec HQ2.out) rfl ⟨by rw [HF.out]; rfl, H6.out.2.1.one hO (.inl (Nat.le_refl _))⟩
    · have g1 : (c != 0) = true := by simpa using hc
      have HF : Hid (refGet s = (rzero, 6)) := hid (by rw [Hfin.out, if_pos hc])
      clear hc
      have H3 : Hid (Blk (w2.alloc (.cells #[.bool d, .string v] 25)) w.heap.size 28 (recL rzero) ∧ Nul w (w2.alloc (.cells #[.bool d, .string v] 25))) := hid ⟨H2.out.1.alloc _, H2.out.2.1.alloc _⟩
      go_wp2_with (first
        | (refine wpList_built rfl 28 _ rfl _ Hbz.out ?_)
        | (refine wpList_store_blk rfl 28 (.tmp 2) (.tmp 34) rfl w.heap.size (recL rzero) rfl rfl 28 (recL rzero) 68 H3.out.1 size_rec rfl rfl (recL_one _) ?_; intro w5 hB hO))
      exact bodyPost_ret (ret_rec2 rfl rfl hB rec_fields rfl size_rec rfl) rfl ⟨by rw [HF.out]; rfl, H3.out.2.one hO (.inl (Nat.le_refl _))⟩
set_option maxRecDepth 100000 in
set_option maxHeartbeats 1000000 in
theorem ref_Get_2 (b : UInt8) (l : List UInt8) (w : World) (hs : l.length ≤ 140737488350000) (hb : b.toNat = 2) :
    Calls Try.prog 14 #[.string (bs (b :: l))] w fun e w' => e = .returned (.tuple #[.agg (recL (refGet (bs (b :: l))).1).toArray, .int .i64 (refGet (bs (b :: l))).2]) ∧ Nul w w' := by
  have hfin := refGet_cons b l
  rw [hb] at hfin
  have hix := index_head b l
  rw [hb] at hix
  have hsz : (bs (b :: l)).size = l.length + 1 := by rw [bs_size]; rfl
  have ht := bs_tail b l
  have ht33 := bs_tail33 b l
  rw [hsz] at ht ht33
  obtain ⟨s, hs0⟩ : ∃ s, s = bs (b :: l) := ⟨_, rfl⟩
  rw [← hs0] at hfin hix hsz ht ht33 ⊢
  have hz := (zero_of_info zero_rec).1
  have hn1 := ne_empty (v := s) (by omega)
  have hn2 := toList_isEmpty (v := s) (by omega)
  have Hbk := hid (built_kind 2)
  have Hbz := hid built_zero
  have HB0 := hid (Blk.new w 28 (recL rzero))
  have HR0 : Hid (∀ o, Blk ((w.alloc o).alloc (.cells (recL rzero).toArray 28)) (w.heap.size + 1) 28 (recL rzero)) := hid (fun o => Blk.new_at (w.alloc o) 28 (recL rzero) (by simp))
  have HN0 : Hid (∀ o o', Nul w ((w.alloc o).alloc o')) := hid (fun o o' => ((Frm.refl _ w).alloc o).alloc o')
  rw [if_pos (by decide)] at hfin
  by_cases hl : l.length + 1 < 34
  · rw [if_pos hl] at hfin
    have HF := hid hfin
    clear hfin hs0 hb
    go_enter Try.func14, Try.ntmps14
    go_wp2_with (first
      | (refine wpList_built rfl 28 _ rfl _ Hbk.out ?_)
      | (refine wpList_built rfl 28 _ rfl _ Hbz.out ?_)
      | (refine wpList_store_blk rfl 28 (.tmp 4) (.tmp 13) rfl (w.heap.size + 1) (recL ⟨2, zero32, false, ⟨#[]⟩, zero32, 0⟩) rfl rfl 28 (recL rzero) 68 (HR0.out _) size_rec rfl rfl (recL_one _) ?_; intro w1 hB hO
         have H1 : Hid (Blk w1 w.heap.size 28 (recL rzero) ∧ Nul w w1 ∧ Blk w1 (w.heap.size + 1) 28 (recL ⟨2, zero32, false, ⟨#[]⟩, zero32, 0⟩)) := hid ⟨(HB0.out.alloc _).one hO (by omega), (HN0.out _ _).one hO (.inl (by omega)), hB⟩
         have c0 : w1.cell? ⟨w.heap.size + 1, 0, none⟩ = some (.int .i64 2) := H1.out.2.2.cell 0
         have Hlt := hid H1.out.2.2.lt
         clear hB hO)
      | (refine wpList_store_blk rfl 28 (.tmp 2) (.tmp 25) rfl w.heap.size (recL rzero) rfl rfl 28 (recL rzero) 68 H1.out.1 size_rec rfl rfl (recL_one _) ?_; intro w2 hB hO))
    exact bodyPost_ret (ret_rec2 rfl rfl hB rec_fields rfl size_rec rfl) rfl ⟨by rw [HF.out]; rfl, H1.out.2.1.one hO (.inl (Nat.le_refl _))⟩
  · rw [if_neg hl] at hfin
    have Hk : Hid ((l.take 32).length = 32) := hid (by simp; omega)
    have Hkey := hid (fun w => ref_key (bs l) w (by rw [bs_size]; omega) (by rw [bs_size]; omega))
    rw [bs_toList] at Hkey
    obtain ⟨k, hk⟩ : ∃ k, l.take 32 = k := ⟨_, rfl⟩
    rw [hk] at hfin Hk Hkey
    have Hent := hid (fun w => ref_EGet (bs (l.drop 32)) w (by rw [bs_size]; simp; omega))
    generalize hx : entGet (bs (l.drop 32)) = x at hfin Hent
    obtain ⟨d, v, c⟩ := x
    simp only at hfin Hent
    have hze := (zero_of_info zero_ent).1
    have Hfin := hid hfin
    have HKL : Hid ((Try.prog.info? 23).map (·.size) = some (keyL k).length) := hid (by rw [size_key, keyL_length, Hk.out])
    have HKN : Hid (1 + (keyL k).length ≤ (recL ⟨2, zero32, false, ⟨#[]⟩, zero32, 0⟩).length) := hid (by rw [keyL_length, Hk.out, recL_length ⟨rfl, rfl⟩]; omega)
    clear hfin hs0 hb hk hx
    go_enter Try.func14, Try.ntmps14
    go_wp2_with (first
      | (refine wpList_built rfl 28 _ rfl _ Hbk.out ?_)
      | (refine wpList_built rfl 28 _ rfl _ Hbz.out ?_)
      | (refine wpList_store_blk rfl 28 (.tmp 4) (.tmp 13) rfl (w.heap.size + 1) (recL ⟨2, zero32, false, ⟨#[]⟩, zero32, 0⟩) rfl rfl 28 (recL rzero) 68 (HR0.out _) size_rec rfl rfl (recL_one _) ?_; intro w1 hB hO
         have H1 : Hid (Blk w1 w.heap.size 28 (recL rzero) ∧ Nul w w1 ∧ Blk w1 (w.heap.size + 1) 28 (recL ⟨2, zero32, false, ⟨#[]⟩, zero32, 0⟩)) := hid ⟨(HB0.out.alloc _).one hO (by omega), (HN0.out _ _).one hO (.inl (by omega)), hB⟩
         have c0 : w1.cell? ⟨w.heap.size + 1, 0, none⟩ = some (.int .i64 2) := H1.out.2.2.cell 0
         have Hlt := hid H1.out.2.2.lt
         clear hB hO))
    refine (Hent.out _).mono ?_
    rintro e w2 ⟨rfl, hf⟩
    have H2 : Hid (Blk w2 w.heap.size 28 (recL rzero) ∧ Nul w w2 ∧ Blk w2 (w.heap.size + 1) 28 (recL ⟨2, zero32, false, ⟨#[]⟩, zero32, 0⟩)) := hid ⟨H1.out.1.nul hf, H1.out.2.1.nul hf, H1.out.2.2.nul hf⟩
    have Hlt2 := hid H2.out.2.2.lt
    clear hf c0
    by_cases hc : c = 0
    · have g1 : (c != 0) = false := by rw [hc]; rfl
      have HF : Hid (refGet s = (⟨2, k, d, v, zero32, 0⟩, 0)) := hid (by rw [Hfin.out, if_neg (by simp [hc])]; rfl)
      clear hc
      have H3 : Hid (Blk (w2.alloc (.cells #[.bool d, .string v] 25)) w.heap.size 28 (recL rzero) ∧ Nul w (w2.alloc (.cells #[.bool d, .string v] 25)) ∧ Blk (w2.alloc (.cells #[.bool d, .string v] 25)) (w.heap.size + 1) 28 (recL ⟨2, zero32, false, ⟨#[]⟩, zero32, 0⟩) ∧ Blk (w2.alloc (.cells #[.bool d, .string v] 25)) w2.heap.size 25 [.bool d, .string v]) := hid ⟨H2.out.1.alloc _, H2.out.2.1.alloc _, H2.out.2.2.alloc _, Blk.new w2 25 [.bool d, .string v]⟩
      go_wp2_with fail
      refine (Hkey.out _).mono ?_
      rintro e w3 ⟨rfl, hf⟩
      have H4 : Hid (Blk w3 w.heap.size 28 (recL rzero) ∧ Nul w w3 ∧ Blk w3 (w.heap.size + 1) 28 (recL ⟨2, zero32, false, ⟨#[]⟩, zero32, 0⟩) ∧ Blk w3 w2.heap.size 25 [.bool d, .string v]) := hid ⟨H3.out.1.nul hf, H3.out.2.1.nul hf, H3.out.2.2.1.nul hf, H3.out.2.2.2.nul hf⟩
      clear hf
      obtain ⟨r, hr⟩ : ∃ r : Rcd, r = ⟨2, k, false, ⟨#[]⟩, zero32, 0⟩ := ⟨_, rfl⟩
      have HQ : Hid r.ok := hid (by rw [hr]; exact ⟨Hk.out, rfl⟩)
      have HR := hid hr
      have HRf : Hid (recL { r with dead := d, val := v } = recL ⟨2, k, d, v, zero32, 0⟩) := hid (by rw [hr])
      have HQ2 : Hid ((recL ⟨2, k, d, v, zero32, 0⟩).length = 68) := hid (recL_length ⟨Hk.out, rfl⟩)
      have Hd := hid (recL_dead HQ.out)
      have Hvl := hid (recL_val HQ.out)
      obtain ⟨rd, hrd⟩ : ∃ rd, r.dead = rd := ⟨_, rfl⟩
      obtain ⟨rv, hrv⟩ : ∃ rv, r.val = rv := ⟨_, rfl⟩
      rw [hrd] at Hd
      rw [hrv] at Hvl
      clear hr hrd hrv
      go_wp2_with (first
        | (refine wpList_store_part rfl 23 (.tmp 38) (.tmp 37) rfl (w.heap.size + 1) 1 (keyL k) rfl rfl 28 _ H4.out.2.2.1 HKL.out HKN.out (keyL_one _) ?_; intro w4 hB hO
           rw [recL_setKey ⟨rfl, rfl⟩ Hk.out] at hB
           have H5 : Hid (Blk w4 w.heap.size 28 (recL rzero) ∧ Nul w w4 ∧ Blk w4 (w.heap.size + 1) 28 (recL r) ∧ Blk w4 w2.heap.size 25 [.bool d, .string v]) := hid ⟨H4.out.1.one hO (by omega), H4.out.2.1.one hO (.inl (by omega)), by rw [HR.out]; exact hB, H4.out.2.2.2.one hO (by have := Hlt2.out; omega)⟩
           have e0 : w4.cell? ⟨w2.heap.size, 0, none⟩ = some (.bool d) := H5.out.2.2.2.cell 0
           have e1 : w4.cell? ⟨w2.heap.size, 1, none⟩ = some (.string v) := H5.out.2.2.2.cell 1
           have c33 : w4.cell? ⟨w.heap.size + 1, 33, none⟩ = some (.bool rd) := by rw [H5.out.2.2.1.cell]; exact Hd.out
           have c34 : w4.cell? ⟨w.heap.size + 1, 34, none⟩ = some (.string rv) := by rw [H5.out.2.2.1.cell]; exact Hvl.out
           have f33 := H5.out.2.2.1.frozen 33
           have f34 := H5.out.2.2.1.frozen 34
           have H6 : Hid (Blk ((w4.setCell ⟨w.heap.size + 1, 33, none⟩ (.bool d)).setCell ⟨w.heap.size + 1, 34, none⟩ (.string v)) w.heap.size 28 (recL rzero) ∧ Nul w ((w4.setCell ⟨w.heap.size + 1, 33, none⟩ (.bool d)).setCell ⟨w.heap.size + 1, 34, none⟩ (.string v)) ∧ Blk ((w4.setCell ⟨w.heap.size + 1, 33, none⟩ (.bool d)).setCell ⟨w.heap.size + 1, 34, none⟩ (.string v)) (w.heap.size + 1) 28 (recL ⟨2, k, d, v, zero32, 0⟩)) := hid ⟨(H5.out.1.far (by simp) _).far (by simp) _, (H5.out.2.1.setCell (.inl (by simp)) _).setCell (.inl (by simp)) _, by
             have := (H5.out.2.2.1.put 33 (.bool d)).put 34 (.string v)
             rw [recL_setDV HQ.out, HRf.out] at this
             exact this⟩
           clear hB hO)
        | (refine wpList_load_blk rfl 28 (.tmp 4) rfl (w.heap.size + 1) rfl 28 (recL ⟨2, k, d, v, zero32, 0⟩) 68 _ H6.out.2.2 rec_fields rfl size_rec HQ2.out ?_)
        | (refine wpList_store_blk rfl 28 (.tmp 2) (.tmp 41) rfl w.heap.size (recL ⟨2, k, d, v, zero32, 0⟩) rfl rfl 28 (recL rzero) 68 H6.out.1 size_rec HQ2.out rfl (recL_one _) ?_; intro w7 hB hO))
      exact bodyPost_ret (ret_rec2 rfl rfl hB rec_fields rfl size_rec HQ2.out) rfl ⟨by rw [HF.out]; rfl, H6.out.2.1.one hO (.inl (Nat.le_refl _))⟩
    · have g1 : (c != 0) = true := by simpa using hc
      have HF : Hid (refGet s = (rzero, 6)) := hid (by rw [Hfin.out, if_pos hc])
      clear hc
      have H3 : Hid (Blk (w2.alloc (.cells #[.bool d, .string v] 25)) w.heap.size 28 (recL rzero) ∧ Nul w (w2.alloc (.cells #[.bool d, .string v] 25))) := hid ⟨H2.out.1.alloc _, H2.out.2.1.alloc _⟩
      go_wp2_with (first
        | (refine wpList_built rfl 28 _ rfl _ Hbz.out ?_)
        | (refine wpList_store_blk rfl 28 (.tmp 2) (.tmp 34) rfl w.heap.size (recL rzero) rfl rfl 28 (recL rzero) 68 H3.out.1 size_rec rfl rfl (recL_one _) ?_; intro w5 hB hO))
      exact bodyPost_ret (ret_rec2 rfl rfl hB rec_fields rfl size_rec rfl) rfl ⟨by rw [HF.out]; rfl, H3.out.2.one hO (.inl (Nat.le_refl _))⟩
set_option maxRecDepth 100000 in
set_option maxHeartbeats 1000000 in
theorem ref_Get_3 (b : UInt8) (l : List UInt8) (w : World) (hs : l.length ≤ 140737488350000) (hb : b.toNat = 3) :
    Calls Try.prog 14 #[.string (bs (b :: l))] w fun e w' => e = .returned (.tuple #[.agg (recL (refGet (bs (b :: l))).1).toArray, .int .i64 (refGet (bs (b :: l))).2]) ∧ Nul w w' := by
  have hfin := refGet_cons b l
  rw [hb] at hfin
  have hix := index_head b l
  rw [hb] at hix
  have hsz : (bs (b :: l)).size = l.length + 1 := by rw [bs_size]; rfl
  have ht := bs_tail b l
  rw [hsz] at ht
  obtain ⟨s, hs0⟩ : ∃ s, s = bs (b :: l) := ⟨_, rfl⟩
  rw [← hs0] at hfin hix hsz ht ⊢
  have hz := (zero_of_info zero_rec).1
  have hn1 := ne_empty (v := s) (by omega)
  have hn2 := toList_isEmpty (v := s) (by omega)
  have Hbk := hid (built_kind 3)
  have Hbz := hid built_zero
  have HB0 := hid (Blk.new w 28 (recL rzero))
  have HR0 : Hid (∀ o, Blk ((w.alloc o).alloc (.cells (recL rzero).toArray 28)) (w.heap.size + 1) 28 (recL rzero)) := hid (fun o => Blk.new_at (w.alloc o) 28 (recL rzero) (by simp))
  have HN0 : Hid (∀ o o', Nul w ((w.alloc o).alloc o')) := hid (fun o o' => ((Frm.refl _ w).alloc o).alloc o')
  rw [if_neg (by decide), if_pos (by decide)] at hfin
  by_cases hl : l.length + 1 < 33
  · rw [if_pos hl] at hfin
    have HF := hid hfin
    clear hfin hs0 hb
    go_enter Try.func14, Try.ntmps14
    go_wp2_with (first
      | (refine wpList_built rfl 28 _ rfl _ Hbk.out ?_)
      | (refine wpList_built rfl 28 _ rfl _ Hbz.out ?_)
      | (refine wpList_store_blk rfl 28 (.tmp 4) (.tmp 13) rfl (w.heap.size + 1) (recL ⟨3, zero32, false, ⟨#[]⟩, zero32, 0⟩) rfl rfl 28 (recL rzero) 68 (HR0.out _) size_rec rfl rfl (recL_one _) ?_; intro w1 hB hO
         have H1 : Hid (Blk w1 w.heap.size 28 (recL rzero) ∧ Nul w w1 ∧ Blk w1 (w.heap.size + 1) 28 (recL ⟨3, zero32, false, ⟨#[]⟩, zero32, 0⟩)) := hid ⟨(HB0.out.alloc _).one hO (by omega), (HN0.out _ _).one hO (.inl (by omega)), hB⟩
         have c0 : w1.cell? ⟨w.heap.size + 1, 0, none⟩ = some (.int .i64 3) := H1.out.2.2.cell 0
         have Hlt := hid H1.out.2.2.lt
         clear hB hO)
      | (refine wpList_store_blk rfl 28 (.tmp 2) (.tmp 53) rfl w.heap.size (recL rzero) rfl rfl 28 (recL rzero) 68 H1.out.1 size_rec rfl rfl (recL_one _) ?_; intro w2 hB hO))
    exact bodyPost_ret (ret_rec2 rfl rfl hB rec_fields rfl size_rec rfl) rfl ⟨by rw [HF.out]; rfl, H1.out.2.1.one hO (.inl (Nat.le_refl _))⟩
  · rw [if_neg hl] at hfin
    have Hk : Hid ((l.take 32).length = 32) := hid (by simp; omega)
    have Hkey := hid (fun w => ref_key (bs l) w (by rw [bs_size]; omega) (by rw [bs_size]; omega))
    rw [bs_toList] at Hkey
    obtain ⟨k, hk⟩ : ∃ k, l.take 32 = k := ⟨_, rfl⟩
    rw [hk] at hfin Hk Hkey
    obtain ⟨r, hr⟩ : ∃ r : Rcd, r = ⟨3, zero32, false, ⟨#[]⟩, k, 0⟩ := ⟨_, rfl⟩
    have hfin : refGet s = recFin s r 0 := by rw [hr]; exact hfin
    have HQ : Hid r.ok := hid (by rw [hr]; exact ⟨rfl, Hk.out⟩)
    have Hrl := hid (recL_length HQ.out)
    have HG : Hid (recGood r = true) := hid (by rw [hr]; exact good_sum 3 (by decide) k)
    have Hv : Hid (r.val.size ≤ 9223372036854775807) := hid (by rw [hr]; show 0 ≤ _; omega)
    have Hv2 : Hid (r.val.size ≤ 140737488350000) := hid (by rw [hr]; show 0 ≤ _; omega)
    have HR := hid hr
    have HT := hid ht
    have Hfin := hid hfin
    have Hkl : Hid ((Try.prog.info? 26).map (·.size) = some (keyL k).length) := hid (by rw [size_sum, keyL_length, Hk.out])
    have Hkn : Hid (35 + (keyL k).length ≤ (recL ⟨3, zero32, false, ⟨#[]⟩, zero32, 0⟩).length) := hid (by rw [keyL_length, Hk.out, recL_length ⟨rfl, rfl⟩]; omega)
    clear hfin hs0 hb hk hr
    go_enter Try.func14, Try.ntmps14
    go_wp2_with (first
      | (refine wpList_built rfl 28 _ rfl _ Hbk.out ?_)
      | (refine wpList_built rfl 28 _ rfl _ Hbz.out ?_)
      | (refine wpList_store_blk rfl 28 (.tmp 4) (.tmp 13) rfl (w.heap.size + 1) (recL ⟨3, zero32, false, ⟨#[]⟩, zero32, 0⟩) rfl rfl 28 (recL rzero) 68 (HR0.out _) size_rec rfl rfl (recL_one _) ?_; intro w1 hB hO
         have H1 : Hid (Blk w1 w.heap.size 28 (recL rzero) ∧ Nul w w1 ∧ Blk w1 (w.heap.size + 1) 28 (recL ⟨3, zero32, false, ⟨#[]⟩, zero32, 0⟩)) := hid ⟨(HB0.out.alloc _).one hO (by omega), (HN0.out _ _).one hO (.inl (by omega)), hB⟩
         have c0 : w1.cell? ⟨w.heap.size + 1, 0, none⟩ = some (.int .i64 3) := H1.out.2.2.cell 0
         have Hlt := hid H1.out.2.2.lt
         clear hB hO))
    refine (Hkey.out _).mono ?_
    rintro e w2 ⟨rfl, hf⟩
    have H2 : Hid (Blk w2 w.heap.size 28 (recL rzero) ∧ Nul w w2 ∧ Blk w2 (w.heap.size + 1) 28 (recL ⟨3, zero32, false, ⟨#[]⟩, zero32, 0⟩)) := hid ⟨H1.out.1.nul hf, H1.out.2.1.nul hf, H1.out.2.2.nul hf⟩
    clear hf c0
    go_wp2_with (first
      | (refine wpList_store_part rfl 26 (.tmp 57) (.tmp 56) rfl (w.heap.size + 1) 35 (keyL k) rfl rfl 28 _ H2.out.2.2 Hkl.out Hkn.out (keyL_one _) ?_; intro w3 hB hO
         rw [recL_setSum ⟨rfl, rfl⟩ Hk.out] at hB
         have H3 : Hid (Blk w3 w.heap.size 28 (recL rzero) ∧ Nul w w3 ∧ Blk w3 (w.heap.size + 1) 28 (recL r)) := hid ⟨H2.out.1.one hO (by omega), H2.out.2.1.one hO (.inl (by omega)), by rw [HR.out]; exact hB⟩
         have c0 : w3.cell? ⟨w.heap.size + 1, 0, none⟩ = some (.int .i64 3) := by rw [H3.out.2.2.cell, recL_kind, HR.out]
         clear hB hO)
      | (refine wpList_load_blk rfl 28 (.tmp 4) rfl (w.heap.size + 1) rfl 28 (recL r) 68 _ H3.out.2.2 rec_fields rfl size_rec Hrl.out ?_))
    have HM := hid (fun w => ref_May r w HQ.out Hv.out)
    rw [HG.out] at HM
    refine (HM.out _).mono ?_
    rintro e w10 ⟨rfl, hf⟩
    have H10 : Hid (Blk w10 w.heap.size 28 (recL rzero) ∧ Nul w w10 ∧ Blk w10 (w.heap.size + 1) 28 (recL r)) := hid ⟨H3.out.1.nul hf, H3.out.2.1.nul hf, H3.out.2.2.nul hf⟩
    clear hf
    have HP := hid (fun w => ref_Put r w HQ.out Hv2.out HG.out)
    go_wp2_with (first
      | (with_reducible refine wpList_load_gd 28 (.tmp 4) rfl (by kernel_rfl) (w.heap.size + 1) rfl 28 (recL r) 68 _ H10.out.2.2 rec_fields rfl size_rec Hrl.out ?_))
    refine (HP.out _).mono ?_
    rintro e w11 ⟨rfl, hf⟩
    have H11 : Hid (Blk w11 w.heap.size 28 (recL rzero) ∧ Nul w w11 ∧ Blk w11 (w.heap.size + 1) 28 (recL r)) := hid ⟨H10.out.1.nul hf, H10.out.2.1.nul hf, H10.out.2.2.nul hf⟩
    clear hf
    have hfin := Hfin.out
    by_cases hq : recS r = s
    · have HF : Hid (refGet s = (r, 0)) := hid (by rw [hfin]; unfold recFin; rw [if_neg (by simp), if_pos ⟨HG.out, hq⟩])
      have hb : ((recS r).toList == s.toList) = true := by rw [hq]; exact beq_self_eq_true _
      generalize recS r = z at HP hb
      clear hfin hq
      go_wp2_with (first
        | (refine wpList_load_blk rfl 28 (.tmp 4) rfl (w.heap.size + 1) rfl 28 (recL r) 68 _ H11.out.2.2 rec_fields rfl size_rec Hrl.out ?_)
        | (refine wpList_store_blk rfl 28 (.tmp 2) (.tmp 80) rfl w.heap.size (recL r) rfl rfl 28 (recL rzero) 68 H11.out.1 size_rec Hrl.out rfl (recL_one _) ?_; intro w12 hB hO))
      exact bodyPost_ret (ret_rec2 rfl rfl hB rec_fields rfl size_rec Hrl.out) rfl ⟨by rw [HF.out]; rfl, H11.out.2.1.one hO (.inl (Nat.le_refl _))⟩
    · have HF : Hid (refGet s = (rzero, 6)) := hid (by rw [hfin]; unfold recFin; rw [if_neg (by simp), if_neg (fun h => hq h.2)])
      have hb : ((recS r).toList == s.toList) = false := toList_ne hq
      generalize recS r = z at HP hb
      clear hfin hq
      go_wp2_with (first
        | (refine wpList_built rfl 28 _ rfl _ Hbz.out ?_)
        | (refine wpList_store_blk rfl 28 (.tmp 2) (.tmp 79) rfl w.heap.size (recL rzero) rfl rfl 28 (recL rzero) 68 H11.out.1 size_rec rfl rfl (recL_one _) ?_; intro w12 hB hO))
      exact bodyPost_ret (ret_rec2 rfl rfl hB rec_fields rfl size_rec rfl) rfl ⟨by rw [HF.out]; rfl, H11.out.2.1.one hO (.inl (Nat.le_refl _))⟩
set_option maxRecDepth 100000 in
set_option maxHeartbeats 1000000 in
theorem ref_Get_4 (b : UInt8) (l : List UInt8) (w : World) (hs : l.length ≤ 140737488350000) (hb : b.toNat = 4) :
    Calls Try.prog 14 #[.string (bs (b :: l))] w fun e w' => e = .returned (.tuple #[.agg (recL (refGet (bs (b :: l))).1).toArray, .int .i64 (refGet (bs (b :: l))).2]) ∧ Nul w w' := by
  have hfin := refGet_cons b l
  rw [hb] at hfin
  have hix := index_head b l
  rw [hb] at hix
  have hsz : (bs (b :: l)).size = l.length + 1 := by rw [bs_size]; rfl
  have ht := bs_tail b l
  rw [hsz] at ht
  obtain ⟨s, hs0⟩ : ∃ s, s = bs (b :: l) := ⟨_, rfl⟩
  rw [← hs0] at hfin hix hsz ht ⊢
  have hz := (zero_of_info zero_rec).1
  have hn1 := ne_empty (v := s) (by omega)
  have hn2 := toList_isEmpty (v := s) (by omega)
  have Hbk := hid (built_kind 4)
  have Hbz := hid built_zero
  have HB0 := hid (Blk.new w 28 (recL rzero))
  have HR0 : Hid (∀ o, Blk ((w.alloc o).alloc (.cells (recL rzero).toArray 28)) (w.heap.size + 1) 28 (recL rzero)) := hid (fun o => Blk.new_at (w.alloc o) 28 (recL rzero) (by simp))
  have HN0 : Hid (∀ o o', Nul w ((w.alloc o).alloc o')) := hid (fun o o' => ((Frm.refl _ w).alloc o).alloc o')
  rw [if_neg (by decide), if_pos (by decide)] at hfin
  by_cases hl : l.length + 1 < 33
  · rw [if_pos hl] at hfin
    have HF := hid hfin
    clear hfin hs0 hb
    go_enter Try.func14, Try.ntmps14
    go_wp2_with (first
      | (refine wpList_built rfl 28 _ rfl _ Hbk.out ?_)
      | (refine wpList_built rfl 28 _ rfl _ Hbz.out ?_)
      | (refine wpList_store_blk rfl 28 (.tmp 4) (.tmp 13) rfl (w.heap.size + 1) (recL ⟨4, zero32, false, ⟨#[]⟩, zero32, 0⟩) rfl rfl 28 (recL rzero) 68 (HR0.out _) size_rec rfl rfl (recL_one _) ?_; intro w1 hB hO
         have H1 : Hid (Blk w1 w.heap.size 28 (recL rzero) ∧ Nul w w1 ∧ Blk w1 (w.heap.size + 1) 28 (recL ⟨4, zero32, false, ⟨#[]⟩, zero32, 0⟩)) := hid ⟨(HB0.out.alloc _).one hO (by omega), (HN0.out _ _).one hO (.inl (by omega)), hB⟩
         have c0 : w1.cell? ⟨w.heap.size + 1, 0, none⟩ = some (.int .i64 4) := H1.out.2.2.cell 0
         have Hlt := hid H1.out.2.2.lt
         clear hB hO)
      | (refine wpList_store_blk rfl 28 (.tmp 2) (.tmp 53) rfl w.heap.size (recL rzero) rfl rfl 28 (recL rzero) 68 H1.out.1 size_rec rfl rfl (recL_one _) ?_; intro w2 hB hO))
    exact bodyPost_ret (ret_rec2 rfl rfl hB rec_fields rfl size_rec rfl) rfl ⟨by rw [HF.out]; rfl, H1.out.2.1.one hO (.inl (Nat.le_refl _))⟩
  · rw [if_neg hl] at hfin
    have Hk : Hid ((l.take 32).length = 32) := hid (by simp; omega)
    have Hkey := hid (fun w => ref_key (bs l) w (by rw [bs_size]; omega) (by rw [bs_size]; omega))
    rw [bs_toList] at Hkey
    obtain ⟨k, hk⟩ : ∃ k, l.take 32 = k := ⟨_, rfl⟩
    rw [hk] at hfin Hk Hkey
    obtain ⟨r, hr⟩ : ∃ r : Rcd, r = ⟨4, zero32, false, ⟨#[]⟩, k, 0⟩ := ⟨_, rfl⟩
    have hfin : refGet s = recFin s r 0 := by rw [hr]; exact hfin
    have HQ : Hid r.ok := hid (by rw [hr]; exact ⟨rfl, Hk.out⟩)
    have Hrl := hid (recL_length HQ.out)
    have HG : Hid (recGood r = true) := hid (by rw [hr]; exact good_sum 4 (by decide) k)
    have Hv : Hid (r.val.size ≤ 9223372036854775807) := hid (by rw [hr]; show 0 ≤ _; omega)
    have Hv2 : Hid (r.val.size ≤ 140737488350000) := hid (by rw [hr]; show 0 ≤ _; omega)
    have HR := hid hr
    have HT := hid ht
    have Hfin := hid hfin
    have Hkl : Hid ((Try.prog.info? 26).map (·.size) = some (keyL k).length) := hid (by rw [size_sum, keyL_length, Hk.out])
    have Hkn : Hid (35 + (keyL k).length ≤ (recL ⟨4, zero32, false, ⟨#[]⟩, zero32, 0⟩).length) := hid (by rw [keyL_length, Hk.out, recL_length ⟨rfl, rfl⟩]; omega)
    clear hfin hs0 hb hk hr
    go_enter Try.func14, Try.ntmps14
    go_wp2_with (first
      | (refine wpList_built rfl 28 _ rfl _ Hbk.out ?_)
      | (refine wpList_built rfl 28 _ rfl _ Hbz.out ?_)
      | (refine wpList_store_blk rfl 28 (.tmp 4) (.tmp 13) rfl (w.heap.size + 1) (recL ⟨4, zero32, false, ⟨#[]⟩, zero32, 0⟩) rfl rfl 28 (recL rzero) 68 (HR0.out _) size_rec rfl rfl (recL_one _) ?_; intro w1 hB hO
         have H1 : Hid (Blk w1 w.heap.size 28 (recL rzero) ∧ Nul w w1 ∧ Blk w1 (w.heap.size + 1) 28 (recL ⟨4, zero32, false, ⟨#[]⟩, zero32, 0⟩)) := hid ⟨(HB0.out.alloc _).one hO (by omega), (HN0.out _ _).one hO (.inl (by omega)), hB⟩
         have c0 : w1.cell? ⟨w.heap.size + 1, 0, none⟩ = some (.int .i64 4) := H1.out.2.2.cell 0
         have Hlt := hid H1.out.2.2.lt
         clear hB hO))
    refine (Hkey.out _).mono ?_
    rintro e w2 ⟨rfl, hf⟩
    have H2 : Hid (Blk w2 w.heap.size 28 (recL rzero) ∧ Nul w w2 ∧ Blk w2 (w.heap.size + 1) 28 (recL ⟨4, zero32, false, ⟨#[]⟩, zero32, 0⟩)) := hid ⟨H1.out.1.nul hf, H1.out.2.1.nul hf, H1.out.2.2.nul hf⟩
    clear hf c0
    go_wp2_with (first
      | (refine wpList_store_part rfl 26 (.tmp 57) (.tmp 56) rfl (w.heap.size + 1) 35 (keyL k) rfl rfl 28 _ H2.out.2.2 Hkl.out Hkn.out (keyL_one _) ?_; intro w3 hB hO
         rw [recL_setSum ⟨rfl, rfl⟩ Hk.out] at hB
         have H3 : Hid (Blk w3 w.heap.size 28 (recL rzero) ∧ Nul w w3 ∧ Blk w3 (w.heap.size + 1) 28 (recL r)) := hid ⟨H2.out.1.one hO (by omega), H2.out.2.1.one hO (.inl (by omega)), by rw [HR.out]; exact hB⟩
         have c0 : w3.cell? ⟨w.heap.size + 1, 0, none⟩ = some (.int .i64 4) := by rw [H3.out.2.2.cell, recL_kind, HR.out]
         clear hB hO)
      | (refine wpList_load_blk rfl 28 (.tmp 4) rfl (w.heap.size + 1) rfl 28 (recL r) 68 _ H3.out.2.2 rec_fields rfl size_rec Hrl.out ?_))
    have HM := hid (fun w => ref_May r w HQ.out Hv.out)
    rw [HG.out] at HM
    refine (HM.out _).mono ?_
    rintro e w10 ⟨rfl, hf⟩
    have H10 : Hid (Blk w10 w.heap.size 28 (recL rzero) ∧ Nul w w10 ∧ Blk w10 (w.heap.size + 1) 28 (recL r)) := hid ⟨H3.out.1.nul hf, H3.out.2.1.nul hf, H3.out.2.2.nul hf⟩
    clear hf
    have HP := hid (fun w => ref_Put r w HQ.out Hv2.out HG.out)
    go_wp2_with (first
      | (with_reducible refine wpList_load_gd 28 (.tmp 4) rfl (by kernel_rfl) (w.heap.size + 1) rfl 28 (recL r) 68 _ H10.out.2.2 rec_fields rfl size_rec Hrl.out ?_))
    refine (HP.out _).mono ?_
    rintro e w11 ⟨rfl, hf⟩
    have H11 : Hid (Blk w11 w.heap.size 28 (recL rzero) ∧ Nul w w11 ∧ Blk w11 (w.heap.size + 1) 28 (recL r)) := hid ⟨H10.out.1.nul hf, H10.out.2.1.nul hf, H10.out.2.2.nul hf⟩
    clear hf
    have hfin := Hfin.out
    by_cases hq : recS r = s
    · have HF : Hid (refGet s = (r, 0)) := hid (by rw [hfin]; unfold recFin; rw [if_neg (by simp), if_pos ⟨HG.out, hq⟩])
      have hb : ((recS r).toList == s.toList) = true := by rw [hq]; exact beq_self_eq_true _
      generalize recS r = z at HP hb
      clear hfin hq
      go_wp2_with (first
        | (refine wpList_load_blk rfl 28 (.tmp 4) rfl (w.heap.size + 1) rfl 28 (recL r) 68 _ H11.out.2.2 rec_fields rfl size_rec Hrl.out ?_)
        | (refine wpList_store_blk rfl 28 (.tmp 2) (.tmp 80) rfl w.heap.size (recL r) rfl rfl 28 (recL rzero) 68 H11.out.1 size_rec Hrl.out rfl (recL_one _) ?_; intro w12 hB hO))
      exact bodyPost_ret (ret_rec2 rfl rfl hB rec_fields rfl size_rec Hrl.out) rfl ⟨by rw [HF.out]; rfl, H11.out.2.1.one hO (.inl (Nat.le_refl _))⟩
    · have HF : Hid (refGet s = (rzero, 6)) := hid (by rw [hfin]; unfold recFin; rw [if_neg (by simp), if_neg (fun h => hq h.2)])
      have hb : ((recS r).toList == s.toList) = false := toList_ne hq
      generalize recS r = z at HP hb
      clear hfin hq
      go_wp2_with (first
        | (refine wpList_built rfl 28 _ rfl _ Hbz.out ?_)
        | (refine wpList_store_blk rfl 28 (.tmp 2) (.tmp 79) rfl w.heap.size (recL rzero) rfl rfl 28 (recL rzero) 68 H11.out.1 size_rec rfl rfl (recL_one _) ?_; intro w12 hB hO))
      exact bodyPost_ret (ret_rec2 rfl rfl hB rec_fields rfl size_rec rfl) rfl ⟨by rw [HF.out]; rfl, H11.out.2.1.one hO (.inl (Nat.le_refl _))⟩
set_option maxRecDepth 100000 in
set_option maxHeartbeats 1000000 in
theorem ref_Get_5 (b : UInt8) (l : List UInt8) (w : World) (hs : l.length ≤ 140737488350000) (hb : b.toNat = 5) :
    Calls Try.prog 14 #[.string (bs (b :: l))] w fun e w' => e = .returned (.tuple #[.agg (recL (refGet (bs (b :: l))).1).toArray, .int .i64 (refGet (bs (b :: l))).2]) ∧ Nul w w' := by
  have hfin := refGet_cons b l
  rw [hb] at hfin
  have hix := index_head b l
  rw [hb] at hix
  have hsz : (bs (b :: l)).size = l.length + 1 := by rw [bs_size]; rfl
  have ht := bs_mid5 b l
  obtain ⟨s, hs0⟩ : ∃ s, s = bs (b :: l) := ⟨_, rfl⟩
  rw [← hs0] at hfin hix hsz ht ⊢
  have hz := (zero_of_info zero_rec).1
  have hn1 := ne_empty (v := s) (by omega)
  have hn2 := toList_isEmpty (v := s) (by omega)
  have Hbk := hid (built_kind 5)
  have Hbz := hid built_zero
  have HB0 := hid (Blk.new w 28 (recL rzero))
  have HR0 : Hid (∀ o, Blk ((w.alloc o).alloc (.cells (recL rzero).toArray 28)) (w.heap.size + 1) 28 (recL rzero)) := hid (fun o => Blk.new_at (w.alloc o) 28 (recL rzero) (by simp))
  have HN0 : Hid (∀ o o', Nul w ((w.alloc o).alloc o')) := hid (fun o o' => ((Frm.refl _ w).alloc o).alloc o')
  rw [if_neg (by decide), if_neg (by decide), if_pos rfl] at hfin
  by_cases hl : l.length + 1 < 5
  · rw [if_pos hl] at hfin
    have HF := hid hfin
    clear hfin hs0 hb
    go_enter Try.func14, Try.ntmps14
    go_wp2_with (first
      | (refine wpList_built rfl 28 _ rfl _ Hbk.out ?_)
      | (refine wpList_built rfl 28 _ rfl _ Hbz.out ?_)
      | (refine wpList_store_blk rfl 28 (.tmp 4) (.tmp 13) rfl (w.heap.size + 1) (recL ⟨5, zero32, false, ⟨#[]⟩, zero32, 0⟩) rfl rfl 28 (recL rzero) 68 (HR0.out _) size_rec rfl rfl (recL_one _) ?_; intro w1 hB hO
         have H1 : Hid (Blk w1 w.heap.size 28 (recL rzero) ∧ Nul w w1 ∧ Blk w1 (w.heap.size + 1) 28 (recL ⟨5, zero32, false, ⟨#[]⟩, zero32, 0⟩)) := hid ⟨(HB0.out.alloc _).one hO (by omega), (HN0.out _ _).one hO (.inl (by omega)), hB⟩
         have c0 : w1.cell? ⟨w.heap.size + 1, 0, none⟩ = some (.int .i64 5) := H1.out.2.2.cell 0
         have Hlt := hid H1.out.2.2.lt
         clear hB hO)
      | (refine wpList_store_blk rfl 28 (.tmp 2) (.tmp 64) rfl w.heap.size (recL rzero) rfl rfl 28 (recL rzero) 68 H1.out.1 size_rec rfl rfl (recL_one _) ?_; intro w2 hB hO))
    exact bodyPost_ret (ret_rec2 rfl rfl hB rec_fields rfl size_rec rfl) rfl ⟨by rw [HF.out]; rfl, H1.out.2.1.one hO (.inl (Nat.le_refl _))⟩
  · rw [if_neg hl] at hfin
    have hvl : wval (bs (l.take 4)) < 4294967296 := by
      rw [wval_bs, List.take_take]
      have := vnat_lt (l.take (min 8 4))
      rw [show (l.take (min 8 4)).length = 4 by simp; omega] at this
      omega
    have hval := fun w => r01_Val (bs (l.take 4)) w (by rw [bs_size]; simp; omega)
    obtain ⟨n, hn⟩ : ∃ n, wval (bs (l.take 4)) = n := ⟨_, rfl⟩
    rw [hn] at hfin hvl hval
    have Hval := hid hval
    have hwr : IntKind.i64.wrap (n : Int) = (n : Int) := IntWalk.i64_in _ (by omega)
    obtain ⟨r, hr⟩ : ∃ r : Rcd, r = ⟨5, zero32, false, ⟨#[]⟩, zero32, n⟩ := ⟨_, rfl⟩
    have hfin : refGet s = recFin s r 0 := by rw [hr]; exact hfin
    have HQ : Hid r.ok := hid (by rw [hr]; exact ⟨rfl, rfl⟩)
    have Hrl := hid (recL_length HQ.out)
    have Hv : Hid (r.val.size ≤ 9223372036854775807) := hid (by rw [hr]; show 0 ≤ _; omega)
    have Hv2 : Hid (r.val.size ≤ 140737488350000) := hid (by rw [hr]; show 0 ≤ _; omega)
    have HR := hid hr
    have Hfin := hid hfin
    have HL : Hid (∀ w', Blk w' (w.heap.size + 1) 28 ((recL ⟨5, zero32, false, ⟨#[]⟩, zero32, 0⟩).set 67 (.int .i64 n)) → Blk w' (w.heap.size + 1) 28 (recL r)) := hid (fun w' h => by rw [recL_setN ⟨rfl, rfl⟩] at h; rw [HR.out]; exact h)
    clear hfin hs0 hb hn hr hval
    go_enter Try.func14, Try.ntmps14
    go_wp2_with (first
      | (refine wpList_built rfl 28 _ rfl _ Hbk.out ?_)
      | (refine wpList_built rfl 28 _ rfl _ Hbz.out ?_)
      | (refine wpList_store_blk rfl 28 (.tmp 4) (.tmp 13) rfl (w.heap.size + 1) (recL ⟨5, zero32, false, ⟨#[]⟩, zero32, 0⟩) rfl rfl 28 (recL rzero) 68 (HR0.out _) size_rec rfl rfl (recL_one _) ?_; intro w1 hB hO
         have H1 : Hid (Blk w1 w.heap.size 28 (recL rzero) ∧ Nul w w1 ∧ Blk w1 (w.heap.size + 1) 28 (recL ⟨5, zero32, false, ⟨#[]⟩, zero32, 0⟩)) := hid ⟨(HB0.out.alloc _).one hO (by omega), (HN0.out _ _).one hO (.inl (by omega)), hB⟩
         have c0 : w1.cell? ⟨w.heap.size + 1, 0, none⟩ = some (.int .i64 5) := H1.out.2.2.cell 0
         have Hlt := hid H1.out.2.2.lt
         clear hB hO))
    refine (Hval.out _).mono ?_
    rintro e w2 ⟨rfl, hw⟩
    subst hw
    have H3 : Hid (Blk (w1.setCell ⟨w.heap.size + 1, 67, none⟩ (.int .i64 n)) w.heap.size 28 (recL rzero) ∧ Nul w (w1.setCell ⟨w.heap.size + 1, 67, none⟩ (.int .i64 n)) ∧ Blk (w1.setCell ⟨w.heap.size + 1, 67, none⟩ (.int .i64 n)) (w.heap.size + 1) 28 (recL r)) := hid ⟨H1.out.1.far (by simp) _, H1.out.2.1.setCell (.inl (by simp)) _, HL.out _ (H1.out.2.2.put 67 _)⟩
    have c67 : w1.cell? ⟨w.heap.size + 1, 67, none⟩ = some (.int .i64 0) := by rw [H1.out.2.2.cell]; rfl
    have f67 := H1.out.2.2.frozen 67
    go_wp2_with (first
      | (refine wpList_load_blk rfl 28 (.tmp 4) rfl (w.heap.size + 1) rfl 28 (recL r) 68 _ H3.out.2.2 rec_fields rfl size_rec Hrl.out ?_))
    cases hg : recGood r
    · have HG := hid hg
      have HF : Hid (refGet s = (rzero, 6)) := hid (by rw [Hfin.out]; exact recFin_no _ _ hg)
      clear hg
      have HM := hid (fun w => ref_May r w HQ.out Hv.out)
      rw [HG.out] at HM
      refine (HM.out _).mono ?_
      rintro e w10 ⟨rfl, hf⟩
      have H10 : Hid (Blk w10 w.heap.size 28 (recL rzero) ∧ Nul w w10 ∧ Blk w10 (w.heap.size + 1) 28 (recL r)) := hid ⟨H3.out.1.nul hf, H3.out.2.1.nul hf, H3.out.2.2.nul hf⟩
      clear hf
      go_wp2_with (first
        | (refine wpList_built rfl 28 _ rfl _ Hbz.out ?_)
        | (refine wpList_store_blk rfl 28 (.tmp 2) (.tmp 79) rfl w.heap.size (recL rzero) rfl rfl 28 (recL rzero) 68 H10.out.1 size_rec rfl rfl (recL_one _) ?_; intro w12 hB hO))
      exact bodyPost_ret (ret_rec2 rfl rfl hB rec_fields rfl size_rec rfl) rfl ⟨by rw [HF.out]; rfl, H10.out.2.1.one hO (.inl (Nat.le_refl _))⟩
    · have HG := hid hg
      clear hg
      have HM := hid (fun w => ref_May r w HQ.out Hv.out)
      rw [HG.out] at HM
      refine (HM.out _).mono ?_
      rintro e w10 ⟨rfl, hf⟩
      have H10 : Hid (Blk w10 w.heap.size 28 (recL rzero) ∧ Nul w w10 ∧ Blk w10 (w.heap.size + 1) 28 (recL r)) := hid ⟨H3.out.1.nul hf, H3.out.2.1.nul hf, H3.out.2.2.nul hf⟩
      clear hf
      have HP := hid (fun w => ref_Put r w HQ.out Hv2.out HG.out)
      go_wp2_with (first
        | (with_reducible refine wpList_load_gd 28 (.tmp 4) rfl (by kernel_rfl) (w.heap.size + 1) rfl 28 (recL r) 68 _ H10.out.2.2 rec_fields rfl size_rec Hrl.out ?_))
      refine (HP.out _).mono ?_
      rintro e w11 ⟨rfl, hf⟩
      have H11 : Hid (Blk w11 w.heap.size 28 (recL rzero) ∧ Nul w w11 ∧ Blk w11 (w.heap.size + 1) 28 (recL r)) := hid ⟨H10.out.1.nul hf, H10.out.2.1.nul hf, H10.out.2.2.nul hf⟩
      clear hf
      have hfin := Hfin.out
      by_cases hq : recS r = s
      · have HF : Hid (refGet s = (r, 0)) := hid (by rw [hfin]; unfold recFin; rw [if_neg (by simp), if_pos ⟨HG.out, hq⟩])
        have hb : ((recS r).toList == s.toList) = true := by rw [hq]; exact beq_self_eq_true _
        generalize recS r = z at HP hb
        clear hfin hq
        go_wp2_with (first
          | (refine wpList_load_blk rfl 28 (.tmp 4) rfl (w.heap.size + 1) rfl 28 (recL r) 68 _ H11.out.2.2 rec_fields rfl size_rec Hrl.out ?_)
          | (refine wpList_store_blk rfl 28 (.tmp 2) (.tmp 80) rfl w.heap.size (recL r) rfl rfl 28 (recL rzero) 68 H11.out.1 size_rec Hrl.out rfl (recL_one _) ?_; intro w12 hB hO))
        exact bodyPost_ret (ret_rec2 rfl rfl hB rec_fields rfl size_rec Hrl.out) rfl ⟨by rw [HF.out]; rfl, H11.out.2.1.one hO (.inl (Nat.le_refl _))⟩
      · have HF : Hid (refGet s = (rzero, 6)) := hid (by rw [hfin]; unfold recFin; rw [if_neg (by simp), if_neg (fun h => hq h.2)])
        have hb : ((recS r).toList == s.toList) = false := toList_ne hq
        generalize recS r = z at HP hb
        clear hfin hq
        go_wp2_with (first
          | (refine wpList_built rfl 28 _ rfl _ Hbz.out ?_)
          | (refine wpList_store_blk rfl 28 (.tmp 2) (.tmp 79) rfl w.heap.size (recL rzero) rfl rfl 28 (recL rzero) 68 H11.out.1 size_rec rfl rfl (recL_one _) ?_; intro w12 hB hO))
        exact bodyPost_ret (ret_rec2 rfl rfl hB rec_fields rfl size_rec rfl) rfl ⟨by rw [HF.out]; rfl, H11.out.2.1.one hO (.inl (Nat.le_refl _))⟩
set_option maxRecDepth 100000 in
set_option maxHeartbeats 1000000 in
theorem ref_Get_no (b : UInt8) (l : List UInt8) (w : World) (hs : l.length ≤ 140737488350000) (kd : Nat) (hb : b.toNat = kd) (h6 : 6 ≤ kd) :
    Calls Try.prog 14 #[.string (bs (b :: l))] w fun e w' => e = .returned (.tuple #[.agg (recL (refGet (bs (b :: l))).1).toArray, .int .i64 (refGet (bs (b :: l))).2]) ∧ Nul w w' := by
  have hfin := refGet_cons b l
  rw [hb] at hfin
  have hix := index_head b l
  rw [hb] at hix
  have hsz : (bs (b :: l)).size = l.length + 1 := by rw [bs_size]; rfl
  obtain ⟨s, hs0⟩ : ∃ s, s = bs (b :: l) := ⟨_, rfl⟩
  rw [← hs0] at hfin hix hsz ⊢
  have hz := (zero_of_info zero_rec).1
  have hn1 := ne_empty (v := s) (by omega)
  have hn2 := toList_isEmpty (v := s) (by omega)
  have Hbk := hid (built_kind (kd : Int))
  have Hbz := hid built_zero
  have HB0 := hid (Blk.new w 28 (recL rzero))
  have HR0 : Hid (∀ o, Blk ((w.alloc o).alloc (.cells (recL rzero).toArray 28)) (w.heap.size + 1) 28 (recL rzero)) := hid (fun o => Blk.new_at (w.alloc o) 28 (recL rzero) (by simp))
  have HN0 : Hid (∀ o o', Nul w ((w.alloc o).alloc o')) := hid (fun o o' => ((Frm.refl _ w).alloc o).alloc o')
  have hkd : kd < 256 := by have := b.toNat_lt; omega
  have hwr : IntKind.i64.wrap (kd : Int) = (kd : Int) := IntWalk.i64_in _ (by omega)
  rw [if_neg (by omega), if_neg (by omega), if_neg (by omega)] at hfin
  have HF := hid hfin
  obtain ⟨r, hr⟩ : ∃ r : Rcd, r = ⟨(kd : Int), zero32, false, ⟨#[]⟩, zero32, 0⟩ := ⟨_, rfl⟩
  have HQ : Hid r.ok := hid (by rw [hr]; exact ⟨rfl, rfl⟩)
  have Hrl := hid (recL_length HQ.out)
  have HG : Hid (recGood r = false) := hid (by rw [hr]; exact good_no _ (by simp only; omega) (by simp only; omega) (by simp only; omega) (by simp only; omega) (by simp only; omega))
  have Hv : Hid (r.val.size ≤ 9223372036854775807) := hid (by rw [hr]; show 0 ≤ _; omega)
  have HR := hid hr
  have t5 : ((kd : Int) == 5) = false := by simp only [beq_eq_false_iff_ne, ne_eq]; omega
  have k1 : 1 ≤ kd := by omega
  have k2 : 2 < kd := by omega
  have k3 : 3 ≤ kd := by omega
  have k4 : 4 < kd := by omega
  clear hfin hs0 hb hr
  go_enter Try.func14, Try.ntmps14
  go_wp2_with (first
    | (refine wpList_built rfl 28 _ rfl _ Hbk.out ?_)
    | (refine wpList_built rfl 28 _ rfl _ Hbz.out ?_)
    | (refine wpList_store_blk rfl 28 (.tmp 4) (.tmp 13) rfl (w.heap.size + 1) (recL ⟨(kd : Int), zero32, false, ⟨#[]⟩, zero32, 0⟩) rfl rfl 28 (recL rzero) 68 (HR0.out _) size_rec rfl rfl (recL_one _) ?_; intro w1 hB hO
       have H1 : Hid (Blk w1 w.heap.size 28 (recL rzero) ∧ Nul w w1 ∧ Blk w1 (w.heap.size + 1) 28 (recL ⟨(kd : Int), zero32, false, ⟨#[]⟩, zero32, 0⟩)) := hid ⟨(HB0.out.alloc _).one hO (by omega), (HN0.out _ _).one hO (.inl (by omega)), hB⟩
       have c0 : w1.cell? ⟨w.heap.size + 1, 0, none⟩ = some (.int .i64 (kd : Int)) := H1.out.2.2.cell 0
       have Hlt := hid H1.out.2.2.lt
       clear hB hO)
    | (refine wpList_load_blk rfl 28 (.tmp 4) rfl (w.heap.size + 1) rfl 28 (recL r) 68 _ (by rw [HR.out]; exact H1.out.2.2) rec_fields rfl size_rec Hrl.out ?_))
  have H3 : Hid (Blk w1 w.heap.size 28 (recL rzero) ∧ Nul w w1 ∧ Blk w1 (w.heap.size + 1) 28 (recL r)) := hid ⟨H1.out.1, H1.out.2.1, by rw [HR.out]; exact H1.out.2.2⟩
  have HM := hid (fun w => ref_May r w HQ.out Hv.out)
  rw [HG.out] at HM
  refine (HM.out _).mono ?_
  rintro e w10 ⟨rfl, hf⟩
  have H10 : Hid (Blk w10 w.heap.size 28 (recL rzero) ∧ Nul w w10 ∧ Blk w10 (w.heap.size + 1) 28 (recL r)) := hid ⟨H3.out.1.nul hf, H3.out.2.1.nul hf, H3.out.2.2.nul hf⟩
  clear hf
  go_wp2_with (first
    | (refine wpList_built rfl 28 _ rfl _ Hbz.out ?_)
    | (refine wpList_store_blk rfl 28 (.tmp 2) (.tmp 79) rfl w.heap.size (recL rzero) rfl rfl 28 (recL rzero) 68 H10.out.1 size_rec rfl rfl (recL_one _) ?_; intro w12 hB hO))
  exact bodyPost_ret (ret_rec2 rfl rfl hB rec_fields rfl size_rec rfl) rfl ⟨by rw [HF.out]; rfl, H10.out.2.1.one hO (.inl (Nat.le_refl _))⟩
set_option maxRecDepth 100000 in
set_option maxHeartbeats 1000000 in
theorem ref_Get_nil (w : World) :
    Calls Try.prog 14 #[.string ⟨#[]⟩] w fun e w' => e = .returned (.tuple #[.agg (recL rzero).toArray, .int .i64 5]) ∧ Nul w w' := by
  have hz := (zero_of_info zero_rec).1
  have tl := toList_nil
  have hE0 : (⟨#[]⟩ : ByteArray).toList.isEmpty = true := by rw [tl]; rfl
  have Hbz := hid built_zero
  have HB0 := hid (Blk.new w 28 (recL rzero))
  have HN0 : Hid (∀ o, Nul w (w.alloc o)) := hid (fun o => (Frm.refl _ w).alloc o)
  go_enter Try.func14, Try.ntmps14
  go_wp2_with (first
    | (refine wpList_built rfl 28 _ rfl _ Hbz.out ?_)
    | (refine wpList_store_blk rfl 28 (.tmp 2) (.tmp 9) rfl w.heap.size (recL rzero) rfl rfl 28 (recL rzero) 68 HB0.out size_rec rfl rfl (recL_one _) ?_; intro w2 hB hO))
  exact bodyPost_ret (ret_rec2 rfl rfl hB rec_fields rfl size_rec rfl) rfl ⟨rfl, (HN0.out _).one hO (.inl (by omega))⟩

theorem ref_Get (s : ByteArray) (w : World) (hs : s.size ≤ 140737488350000) :
    Calls Try.prog 14 #[.string s] w fun e w' => e = .returned (.tuple #[.agg (recL (recGet s).1).toArray, .int .i64 (recGet s).2]) ∧ Nul w w' := by
  rw [recGet_ref]
  obtain ⟨l, rfl⟩ := bs_of s
  rw [bs_size] at hs
  cases l with
  | nil => exact ref_Get_nil w
  | cons b l =>
    have hl : l.length ≤ 140737488350000 := by simp at hs; omega
    by_cases h0 : b.toNat = 0
    · exact ref_Get_0 b l w hl h0
    by_cases h1 : b.toNat = 1
    · exact ref_Get_1 b l w hl h1
    by_cases h2 : b.toNat = 2
    · exact ref_Get_2 b l w hl h2
    by_cases h3 : b.toNat = 3
    · exact ref_Get_3 b l w hl h3
    by_cases h4 : b.toNat = 4
    · exact ref_Get_4 b l w hl h4
    by_cases h5 : b.toNat = 5
    · exact ref_Get_5 b l w hl h5
    exact ref_Get_no b l w hl b.toNat rfl (by omega)
end Go.Proofs.Ythocjhiapngacaa
