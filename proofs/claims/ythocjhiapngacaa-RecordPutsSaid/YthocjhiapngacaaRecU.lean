/-
  The laws RecordPuts and RecordGets, walked.
-/
import Derived.Test.YthocjhiapngacaaRecS
import Derived.Test.YthocjhiapngacaaRecT
set_option linter.all false
namespace Go.Proofs.Ythocjhiapngacaa
open Go.RowKit

theorem toList_beq (a : ByteArray) : (a.toList == a.toList) = true := beq_self_eq_true _

set_option maxRecDepth 100000 in
set_option maxHeartbeats 1000000 in
theorem law_RecordPuts (r : Rcd) (w : World) (hrk : r.ok) (hv : r.val.size ≤ 9223372036854775807) :
    Calls Try.prog 3 #[.agg (recL r).toArray] w fun e w' => e = .returned (.bool true) ∧ Nul w w' := by
  have hz := (zero_of_info zero_rec).1
  have HB := hid (Blk.new w 28 (recL r))
  have Hrl := hid (recL_length hrk)
  have c34 : (w.alloc (.cells (recL r).toArray 28)).cell? ⟨w.heap.size, 34, none⟩ = some (.string r.val) := by rw [HB.out.cell]; exact recL_val hrk
  have HN := hid ((Frm.refl (fun _ => False) w).alloc (.cells (recL r).toArray 28))
  by_cases hbig : 300 < r.val.size
  · clear hrk
    go_enter Try.func3, Try.ntmps3
    go_wp2_with fail
    refine (awake24 _).mono ?_
    rintro e w1 ⟨rfl, hf⟩
    have H1 := hid (HN.out.nul hf)
    clear hf
    go_wp2_with fail
    go_ret
    exact ⟨rfl, H1.out⟩
  · have HC := hid (fun w => rec_Check r w hrk (by omega))
    have HM := hid (fun w => ref_May r w hrk (by omega))
    have HP := hid (fun w => rec_Put r w hrk (by omega))
    have HD : Hid (recGood r = true → ∀ w, Calls Try.prog 13 #[.agg (recL r).toArray] w fun e w' => e = .returned (.string (recS r)) ∧ Nul w w') := hid (fun hg w => ref_Put r w hrk (by omega) hg)
    have Hsz : Hid (recGood r = true → (recS r).size ≤ 1000) := hid (fun hg => by
      rcases recGood_shape hg with ⟨k, d, v, h | h, _⟩ | ⟨k, h | h⟩ | ⟨m, h, _⟩
      · have e : recS r = (numS 1 1 ++ ⟨k.toArray⟩) ++ entPut d v := by rw [h]; rfl
        have hk : k.length = 32 := by have := hrk.1; rw [h] at this; exact this
        have hvv : v.size ≤ 300 := by rw [h] at hbig; simp only at hbig; omega
        have := entPut_size d v
        rw [e, ByteArray.size_append, ByteArray.size_append, numS_size, size_key32 hk]
        omega
      · have e : recS r = (numS 2 1 ++ ⟨k.toArray⟩) ++ entPut d v := by rw [h]; rfl
        have hk : k.length = 32 := by have := hrk.1; rw [h] at this; exact this
        have hvv : v.size ≤ 300 := by rw [h] at hbig; simp only at hbig; omega
        have := entPut_size d v
        rw [e, ByteArray.size_append, ByteArray.size_append, numS_size, size_key32 hk]
        omega
      · have e : recS r = numS 3 1 ++ ⟨k.toArray⟩ := by rw [h]; rfl
        have hk : k.length = 32 := by have := hrk.2; rw [h] at this; exact this
        rw [e, ByteArray.size_append, numS_size, size_key32 hk]
        omega
      · have e : recS r = numS 4 1 ++ ⟨k.toArray⟩ := by rw [h]; rfl
        have hk : k.length = 32 := by have := hrk.2; rw [h] at this; exact this
        rw [e, ByteArray.size_append, numS_size, size_key32 hk]
        omega
      · have e : recS r = numS 5 1 ++ numS m 4 := by rw [h]; rfl
        rw [e, ByteArray.size_append, numS_size, numS_size]
        omega)
    have HG : Hid (recGood r = true → recGet (recS r) = (r, 0)) := hid (fun hg => recGet_put hrk hg)
    have heq := rec_eql hrk hrk
    have hrr : recB r r = true := (recB_iff r r).2 rfl
    rw [hrr] at heq
    have Heq := hid heq
    clear hrr heq hrk
    rcases recChk_cases r with ⟨hg, hc⟩ | ⟨hg, hc⟩
    · rw [hc] at HC
      rw [hg] at HM
      rw [hg, hc, if_pos rfl] at HP
      have HD2 := hid (HD.out hg)
      have HG2 := hid (fun w => rec_Get (recS r) w (by have := Hsz.out hg; omega))
      rw [HG.out hg] at HG2
      have hb := toList_beq (recS r)
      generalize recS r = s at HP HD2 HG2 hb
      clear HD Hsz HG hg hc
      go_enter Try.func3, Try.ntmps3
      go_wp2_with (first
        | (refine wpList_load_blk rfl 28 (.tmp 1) rfl w.heap.size rfl 28 (recL r) 68 _ HB.out rec_fields rfl size_rec Hrl.out ?_))
      refine (HP.out _).mono ?_
      rintro e w1 ⟨rfl, hf⟩
      have H1 : Hid (Nul w w1 ∧ Blk w1 w.heap.size 28 (recL r)) := hid ⟨HN.out.nul hf, HB.out.nul hf⟩
      clear hf
      go_wp2_with (first
        | (refine wpList_load_blk rfl 28 (.tmp 1) rfl w.heap.size rfl 28 (recL r) 68 _ H1.out.2 rec_fields rfl size_rec Hrl.out ?_))
      refine (HM.out _).mono ?_
      rintro e w2 ⟨rfl, hf⟩
      have H2 : Hid (Nul w w2 ∧ Blk w2 w.heap.size 28 (recL r)) := hid ⟨H1.out.1.nul hf, H1.out.2.nul hf⟩
      clear hf
      go_wp2_with (first
        | (refine wpList_load_blk rfl 28 (.tmp 1) rfl w.heap.size rfl 28 (recL r) 68 _ H2.out.2 rec_fields rfl size_rec Hrl.out ?_))
      refine (HC.out _).mono ?_
      rintro e w3 ⟨rfl, hf⟩
      have H3 : Hid (Nul w w3 ∧ Blk w3 w.heap.size 28 (recL r)) := hid ⟨H2.out.1.nul hf, H2.out.2.nul hf⟩
      clear hf
      go_wp2_with fail
      refine (HG2.out _).mono ?_
      rintro e w4 ⟨rfl, hf⟩
      have H4 : Hid (Nul w w4 ∧ Blk w4 w.heap.size 28 (recL r)) := hid ⟨H3.out.1.nul hf, H3.out.2.nul hf⟩
      have HB4 := hid (Blk.new w4 28 (recL rzero))
      have Hlt := hid H4.out.2.lt
      clear hf
      go_wp2_with (first
        | (refine wpList_store_blk rfl 28 (.tmp 6) (.tmp 40) rfl w4.heap.size (recL r) rfl rfl 28 (recL rzero) 68 HB4.out size_rec Hrl.out rfl (recL_one _) ?_; intro w5 hB hO
           have H5 : Hid (Nul w w5 ∧ Blk w5 w.heap.size 28 (recL r) ∧ Blk w5 w4.heap.size 28 (recL r)) := hid ⟨(H4.out.1.alloc _).one hO (.inl H4.out.1.size), (H4.out.2.alloc _).one hO (by have := Hlt.out; omega), hB⟩
           clear hB hO))
      refine (awake24 _).mono ?_
      rintro e w6 ⟨rfl, hf⟩
      have H6 : Hid (Nul w w6 ∧ Blk w6 w.heap.size 28 (recL r) ∧ Blk w6 w4.heap.size 28 (recL r)) := hid ⟨H5.out.1.nul hf, H5.out.2.1.nul hf, H5.out.2.2.nul hf⟩
      clear hf
      go_wp2_with (first
        | (with_reducible refine wpList_load_gd 28 (.tmp 1) rfl (by kernel_rfl) w.heap.size rfl 28 (recL r) 68 _ H6.out.2.1 rec_fields rfl size_rec Hrl.out ?_))
      refine (HD2.out _).mono ?_
      rintro e w7 ⟨rfl, hf⟩
      have H7 : Hid (Nul w w7 ∧ Blk w7 w.heap.size 28 (recL r) ∧ Blk w7 w4.heap.size 28 (recL r)) := hid ⟨H6.out.1.nul hf, H6.out.2.1.nul hf, H6.out.2.2.nul hf⟩
      clear hf
      have hx := Heq.out
      go_wp2_with (first
        | (with_reducible refine wpList_load_gd 28 (.tmp 1) rfl (by kernel_rfl) w.heap.size rfl 28 (recL r) 68 _ H7.out.2.1 rec_fields rfl size_rec Hrl.out ?_)
        | (with_reducible refine wpList_load_gd 28 (.tmp 6) rfl (by kernel_rfl) w4.heap.size rfl 28 (recL r) 68 _ H7.out.2.2 rec_fields rfl size_rec Hrl.out ?_))
      go_ret
      exact ⟨rfl, H7.out.1⟩
    · rw [hc] at HC
      rw [hg] at HM
      rw [hg, hc, if_neg (by decide)] at HP
      have tl := toList_nil
      have hE0 : (⟨#[]⟩ : ByteArray).toList.isEmpty = true := by rw [tl]; rfl
      clear HD Hsz HG hg hc
      go_enter Try.func3, Try.ntmps3
      go_wp2_with (first
        | (refine wpList_load_blk rfl 28 (.tmp 1) rfl w.heap.size rfl 28 (recL r) 68 _ HB.out rec_fields rfl size_rec Hrl.out ?_))
      refine (HP.out _).mono ?_
      rintro e w1 ⟨rfl, hf⟩
      have H1 : Hid (Nul w w1 ∧ Blk w1 w.heap.size 28 (recL r)) := hid ⟨HN.out.nul hf, HB.out.nul hf⟩
      clear hf
      go_wp2_with (first
        | (refine wpList_load_blk rfl 28 (.tmp 1) rfl w.heap.size rfl 28 (recL r) 68 _ H1.out.2 rec_fields rfl size_rec Hrl.out ?_))
      refine (HM.out _).mono ?_
      rintro e w2 ⟨rfl, hf⟩
      have H2 : Hid (Nul w w2 ∧ Blk w2 w.heap.size 28 (recL r)) := hid ⟨H1.out.1.nul hf, H1.out.2.nul hf⟩
      clear hf
      go_wp2_with (first
        | (refine wpList_load_blk rfl 28 (.tmp 1) rfl w.heap.size rfl 28 (recL r) 68 _ H2.out.2 rec_fields rfl size_rec Hrl.out ?_))
      refine (HC.out _).mono ?_
      rintro e w3 ⟨rfl, hf⟩
      have H3 : Hid (Nul w w3) := hid (H2.out.1.nul hf)
      clear hf
      go_wp2_with fail
      refine (awake24 _).mono ?_
      rintro e w4 ⟨rfl, hf⟩
      have H4 : Hid (Nul w w4) := hid (H3.out.nul hf)
      clear hf
      go_wp2_with fail
      go_ret
      exact ⟨rfl, H4.out⟩

set_option maxRecDepth 100000 in
set_option maxHeartbeats 1000000 in
theorem law_RecordGets (s : ByteArray) (w : World) :
    Calls Try.prog 4 #[.string s] w fun e w' => e = .returned (.bool true) ∧ Nul w w' := by
  have hz := (zero_of_info zero_rec).1
  by_cases hbig : 400 < s.size
  · go_enter Try.func4, Try.ntmps4
    go_wp2_with fail
    refine (awake24 _).mono ?_
    rintro e w1 ⟨rfl, hf⟩
    have H1 := hid hf
    clear hf
    go_wp2_with fail
    go_ret
    exact ⟨rfl, H1.out⟩
  · obtain ⟨hok, hvs, hz1, hz2⟩ := recGet_spec s
    have HG := hid (fun w => rec_Get s w (by omega))
    have HR := hid (fun w => ref_Get s w (by omega))
    generalize recGet s = p at HG HR hok hvs hz1 hz2
    obtain ⟨r, x⟩ := p
    simp only at HG HR hok hvs hz1 hz2
    have Hrl := hid (recL_length hok)
    have heq := rec_eql hok hok
    have hrr : recB r r = true := (recB_iff r r).2 rfl
    rw [hrr] at heq
    have Heq := hid heq
    clear hrr heq
    have HN1 : Hid (x = 0 → (∀ w, Calls Try.prog 13 #[.agg (recL r).toArray] w fun e w' => e = .returned (.string s) ∧ Nul w w')) := hid (fun hx w => by
      obtain ⟨hg, hs⟩ := hz1 hx
      have := ref_Put r w hok (by omega) hg
      rwa [hs] at this)
    clear hok hvs hz1 hz2
    have hb := toList_beq s
    by_cases hx0 : x = 0
    · have HP := hid (HN1.out hx0)
      subst hx0
      clear HN1
      go_enter Try.func4, Try.ntmps4
      go_wp2_with fail
      refine (HG.out _).mono ?_
      rintro e w1 ⟨rfl, hf⟩
      have H1 := hid hf
      have HB1 := hid (Blk.new w1 28 (recL rzero))
      clear hf
      go_wp2_with (first
        | (refine wpList_store_blk rfl 28 (.tmp 3) (.tmp 14) rfl w1.heap.size (recL r) rfl rfl 28 (recL rzero) 68 HB1.out size_rec Hrl.out rfl (recL_one _) ?_; intro w2 hB hO
           have H2 : Hid (Nul w w2 ∧ Blk w2 w1.heap.size 28 (recL r)) := hid ⟨(H1.out.alloc _).one hO (.inl H1.out.size), hB⟩
           clear hB hO))
      refine (HR.out _).mono ?_
      rintro e w3 ⟨rfl, hf⟩
      have H3 : Hid (Nul w w3 ∧ Blk w3 w1.heap.size 28 (recL r)) := hid ⟨H2.out.1.nul hf, H2.out.2.nul hf⟩
      have HB3 := hid (Blk.new w3 28 (recL rzero))
      have Hlt := hid H3.out.2.lt
      clear hf
      go_wp2_with (first
        | (refine wpList_store_blk rfl 28 (.tmp 5) (.tmp 19) rfl w3.heap.size (recL r) rfl rfl 28 (recL rzero) 68 HB3.out size_rec Hrl.out rfl (recL_one _) ?_; intro w4 hB hO
           have H4 : Hid (Nul w w4 ∧ Blk w4 w1.heap.size 28 (recL r) ∧ Blk w4 w3.heap.size 28 (recL r)) := hid ⟨(H3.out.1.alloc _).one hO (.inl H3.out.1.size), (H3.out.2.alloc _).one hO (by have := Hlt.out; omega), hB⟩
           clear hB hO))
      refine (awake24 _).mono ?_
      rintro e w5 ⟨rfl, hf⟩
      have H5 : Hid (Nul w w5 ∧ Blk w5 w1.heap.size 28 (recL r) ∧ Blk w5 w3.heap.size 28 (recL r)) := hid ⟨H4.out.1.nul hf, H4.out.2.1.nul hf, H4.out.2.2.nul hf⟩
      clear hf
      have hx := Heq.out
      go_wp2_with (first
        | (with_reducible refine wpList_load_gd 28 (.tmp 3) rfl (by kernel_rfl) w1.heap.size rfl 28 (recL r) 68 _ H5.out.2.1 rec_fields rfl size_rec Hrl.out ?_)
        | (with_reducible refine wpList_load_gd 28 (.tmp 5) rfl (by kernel_rfl) w3.heap.size rfl 28 (recL r) 68 _ H5.out.2.2 rec_fields rfl size_rec Hrl.out ?_))
      refine (HP.out _).mono ?_
      rintro e w6 ⟨rfl, hf⟩
      have H6 : Hid (Nul w w6) := hid (H5.out.1.nul hf)
      clear hf
      go_wp2_with fail
      go_ret
      exact ⟨rfl, H6.out⟩
    · have hx1 : (x != 0) = true := by simpa using hx0
      have hx2 : (x == x) = true := beq_self_eq_true _
      clear HN1 hx0
      go_enter Try.func4, Try.ntmps4
      go_wp2_with fail
      refine (HG.out _).mono ?_
      rintro e w1 ⟨rfl, hf⟩
      have H1 := hid hf
      have HB1 := hid (Blk.new w1 28 (recL rzero))
      clear hf
      go_wp2_with (first
        | (refine wpList_store_blk rfl 28 (.tmp 3) (.tmp 14) rfl w1.heap.size (recL r) rfl rfl 28 (recL rzero) 68 HB1.out size_rec Hrl.out rfl (recL_one _) ?_; intro w2 hB hO
           have H2 : Hid (Nul w w2 ∧ Blk w2 w1.heap.size 28 (recL r)) := hid ⟨(H1.out.alloc _).one hO (.inl H1.out.size), hB⟩
           clear hB hO))
      refine (HR.out _).mono ?_
      rintro e w3 ⟨rfl, hf⟩
      have H3 : Hid (Nul w w3 ∧ Blk w3 w1.heap.size 28 (recL r)) := hid ⟨H2.out.1.nul hf, H2.out.2.nul hf⟩
      have HB3 := hid (Blk.new w3 28 (recL rzero))
      have Hlt := hid H3.out.2.lt
      clear hf
      go_wp2_with (first
        | (refine wpList_store_blk rfl 28 (.tmp 5) (.tmp 19) rfl w3.heap.size (recL r) rfl rfl 28 (recL rzero) 68 HB3.out size_rec Hrl.out rfl (recL_one _) ?_; intro w4 hB hO
           have H4 : Hid (Nul w w4 ∧ Blk w4 w1.heap.size 28 (recL r) ∧ Blk w4 w3.heap.size 28 (recL r)) := hid ⟨(H3.out.1.alloc _).one hO (.inl H3.out.1.size), (H3.out.2.alloc _).one hO (by have := Hlt.out; omega), hB⟩
           clear hB hO))
      refine (awake24 _).mono ?_
      rintro e w5 ⟨rfl, hf⟩
      have H5 : Hid (Nul w w5 ∧ Blk w5 w1.heap.size 28 (recL r) ∧ Blk w5 w3.heap.size 28 (recL r)) := hid ⟨H4.out.1.nul hf, H4.out.2.1.nul hf, H4.out.2.2.nul hf⟩
      clear hf
      have hx := Heq.out
      go_wp2_with (first
        | (with_reducible refine wpList_load_gd (o := ⟨some 23, _, _, _, _, _⟩) 28 (.tmp 3) rfl (by kernel_rfl) w1.heap.size rfl 28 (recL r) 68 _ H5.out.2.1 rec_fields rfl size_rec Hrl.out ?_)
        | (with_reducible refine wpList_load_gd (o := ⟨some 24, _, _, _, _, _⟩) 28 (.tmp 5) rfl (by kernel_rfl) w3.heap.size rfl 28 (recL r) 68 _ H5.out.2.2 rec_fields rfl size_rec Hrl.out ?_))
      go_ret
      exact ⟨rfl, H5.out.1⟩
end Go.Proofs.Ythocjhiapngacaa
