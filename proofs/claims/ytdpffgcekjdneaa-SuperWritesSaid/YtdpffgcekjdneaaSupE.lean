/-
  Walks: reading a super, as the document says.
-/
import Derived.Test.YtdpffgcekjdneaaSupD
import Derived.Test.YtdpffgcekjdneaaAwakeD
set_option linter.all false
namespace Go.Proofs.Ytdpffgcekjdneaa
open Go.RowKit

theorem supR_size {t : ByteArray} (h : t.size ≠ 128) : supR t = (Sup.zero, 6) := by
  unfold supR supOf
  rw [if_neg (fun h2 => h h2.1)]

theorem wval_one {t : ByteArray} {n : Nat} (h : n < t.size) : wval (t.extract n (n + 1)) = (t[n]'h).toNat := by
  have e : (t.extract n (n + 1)).data.toList = [t[n]'h] := by
    apply List.ext_getElem?
    intro j
    simp only [ByteArray.data_extract, Array.toList_extract, List.extract_eq_take_drop]
    match j with
    | 0 =>
      rw [List.getElem?_take_of_lt (by omega), List.getElem?_drop]
      have : n < t.data.toList.length := h
      rw [Nat.add_zero, List.getElem?_eq_getElem this]
      rfl
    | j + 1 =>
      rw [List.getElem?_eq_none (by rw [List.length_take]; omega)]
      rfl
  unfold wval
  rw [e]
  rfl
theorem wval_len (t : ByteArray) (n : Nat) (h : t.size ≤ n) : wval t < 256 ^ n := by
  unfold wval
  refine Nat.lt_of_lt_of_le (vnat_lt _) (Nat.pow_le_pow_right (by omega) ?_)
  rw [List.length_take]
  have : t.data.toList.length = t.size := rfl
  omega
theorem index_at (r : ByteArray) (n : Nat) (h : n < r.size) (w : World) : (Instr.index 9 (.string r) (.int .i64 n)).run Try.prog w = .ok (.int .u8 (r[n]'h).toNat) w := by
  rw [run_index_string w _ _ _ _ Try.underlying9, dif_pos ⟨by omega, by omega⟩]
  rfl

set_option maxRecDepth 100000 in
set_option maxHeartbeats 1600000 in
theorem ref_SGet (t : ByteArray) (w : World) (hs : t.size ≤ 140737488351232) :
    Calls Try.prog 34 #[.string t] w fun e w' => e = .returned (.tuple #[supV (supR t).1, .bool (decide ((supR t).2 = 0))]) ∧ Nul w w' := by
  by_cases h128 : t.size = 128
  · obtain ⟨v, hv⟩ : ∃ v, supP t = v := ⟨_, rfl⟩
    have hbad := @supR_bad t
    have hne := @supR_ne t
    have heq := @supR_eq t
    rw [cutP_eq h128, hv] at hbad hne heq
    have Hbad := hid hbad
    have Hne := hid hne
    have Heq := hid heq
    obtain ⟨v1, v2, v3⟩ := v
    simp only [supP, Sup.mk.injEq] at hv
    obtain ⟨q1, q2, q3⟩ := hv
    have HV1 : Hid (∀ w, Calls Try.prog 61 #[.string (t.extract 1 9)] w fun e w' => e = .returned (.int .u64 (v1 : Int)) ∧ w = w') := hid (fun w => by
      have := r01_Val (t.extract 1 9) w (by rw [ByteArray.size_extract]; omega)
      rw [q1] at this
      exact this)
    have HV3 : Hid (∀ w, Calls Try.prog 61 #[.string (t.extract 10 14)] w fun e w' => e = .returned (.int .u64 (v3 : Int)) ∧ w = w') := hid (fun w => by
      have := r01_Val (t.extract 10 14) w (by rw [ByteArray.size_extract]; omega)
      rw [q3] at this
      exact this)
    have hix : ∀ w : World, (Instr.index 9 (.string t) (.int .i64 9)).run Try.prog w = .ok (.int .u8 (v2 : Int)) w := fun w => by
      have := index_at t 9 (by omega) w
      rw [← wval_one (t := t) (n := 9) (by omega), q2] at this
      exact this
    have b1 : v1 < 18446744073709551616 := by rw [← q1]; exact wval_lt _
    have b2 : v2 < 256 := by rw [← q2]; have := wval_len (t.extract 9 10) 1 (by rw [ByteArray.size_extract]; omega); simpa using this
    have b3 : v3 < 4294967296 := by rw [← q3]; have := wval_len (t.extract 10 14) 4 (by rw [ByteArray.size_extract]; omega); simpa using this
    have HB : Hid (v1 < 18446744073709551616 ∧ v2 < 256 ∧ v3 < 4294967296) := hid ⟨b1, b2, b3⟩
    have k2 : IntKind.i64.wrap (v2 : Int) = (v2 : Int) := IntWalk.i64_in _ (by omega)
    have k3 : IntKind.i64.wrap (v3 : Int) = (v3 : Int) := IntWalk.i64_in _ (by omega)
    have s1 : (9 : Int) ≤ (t.size : Int) := by omega
    have s2 : (14 : Int) ≤ (t.size : Int) := by omega
    have s3 : 9 ≤ t.size := by omega
    have s4 : 14 ≤ t.size := by omega
    have s5 : ((t.size : Int) == 128) = true := by simp [h128]
    have s6 : ((t.size : Int) != 128) = false := by simp [h128]
    clear hbad hne heq q1 q2 q3 b1 b2 b3 h128
    go_enter Try.func34, Try.ntmps34
    go_wp2_with fail
    go_region_held3 (fun _ => True) (first | exact True.intro) (first
      | (go_at_call 61
         with_reducible refine (HV1.out _).mono ?_
         rintro e w2 ⟨rfl, rfl⟩)
      | (go_at_call 61
         with_reducible refine (HV3.out _).mono ?_
         rintro e w2 ⟨rfl, rfl⟩))
    all_goals
      have HR3 : Hid (Blk (((w.alloc (.cells #[.int .u64 0, .int .i64 0, .int .i64 0] 53)).alloc (.cells #[.int .u64 v1, .int .i64 v2, .int .i64 v3] 53)).drew) w.heap.size 53 [.int .u64 0, .int .i64 0, .int .i64 0] ∧ Blk (((w.alloc (.cells #[.int .u64 0, .int .i64 0, .int .i64 0] 53)).alloc (.cells #[.int .u64 v1, .int .i64 v2, .int .i64 v3] 53)).drew) (w.heap.size + 1) 53 [.int .u64 v1, .int .i64 v2, .int .i64 v3] ∧ Nul w (((w.alloc (.cells #[.int .u64 0, .int .i64 0, .int .i64 0] 53)).alloc (.cells #[.int .u64 v1, .int .i64 v2, .int .i64 v3] 53)).drew)) := hid ⟨((Blk.new w 53 [.int .u64 0, .int .i64 0, .int .i64 0]).alloc _).drew, (Blk.new_at (w.alloc (.cells #[.int .u64 0, .int .i64 0, .int .i64 0] 53)) 53 [.int .u64 v1, .int .i64 v2, .int .i64 v3] (by simp)).drew, ((((Frm.refl _ w).alloc _).alloc _).drew)⟩
      generalize ((w.alloc (.cells #[.int .u64 0, .int .i64 0, .int .i64 0] 53)).alloc (.cells #[.int .u64 v1, .int .i64 v2, .int .i64 v3] 53)).drew = w3 at HR3 ⊢
      have HMy := hid (fun w => ref_May (v1 : Int) v2 v3 w)
      have HPu := hid (fun w => ref_SPut v1 v2 v3 w HB.out.1 (by have := HB.out; omega) (by have := HB.out; omega))
      clear k2 k3 s1 s2 s3 s4 s5 s6 hix
      have c0 : w3.cell? ⟨w.heap.size, 0, none⟩ = some (.int .u64 0) := HR3.out.1.cell 0
      have c1 : w3.cell? ⟨w.heap.size, 1, none⟩ = some (.int .i64 0) := HR3.out.1.cell 1
      have c2 : w3.cell? ⟨w.heap.size, 2, none⟩ = some (.int .i64 0) := HR3.out.1.cell 2
      have f0 : w3.frozen? ⟨w.heap.size, 0, none⟩ = false := HR3.out.1.frozen 0
      have f1 : w3.frozen? ⟨w.heap.size, 1, none⟩ = false := HR3.out.1.frozen 1
      have f2 : w3.frozen? ⟨w.heap.size, 2, none⟩ = false := HR3.out.1.frozen 2
      have d0 : w3.cell? ⟨w.heap.size + 1, 0, none⟩ = some (.int .u64 v1) := HR3.out.2.1.cell 0
      have d1 : w3.cell? ⟨w.heap.size + 1, 1, none⟩ = some (.int .i64 v2) := HR3.out.2.1.cell 1
      have d2 : w3.cell? ⟨w.heap.size + 1, 2, none⟩ = some (.int .i64 v3) := HR3.out.2.1.cell 2
      cases hsb : supB v1 v2 v3 with
      | false =>
        rw [hsb] at HMy
        have hres := hid (Hbad.out hsb)
        clear hsb
        go_wp2_with fail
        refine (HMy.out _).mono ?_
        rintro r w7 ⟨rfl, hf7⟩
        clear c0 c1 c2 f0 f1 f2 d0 d1 d2
        have HR7 : Hid (Blk w7 w.heap.size 53 [.int .u64 0, .int .i64 0, .int .i64 0] ∧ Blk w7 (w.heap.size + 1) 53 [.int .u64 v1, .int .i64 v2, .int .i64 v3] ∧ Nul w w7) := hid ⟨HR3.out.1.nul hf7, HR3.out.2.1.nul hf7, HR3.out.2.2.nul hf7⟩
        clear hf7
        have c0 : w7.cell? ⟨w.heap.size, 0, none⟩ = some (.int .u64 0) := HR7.out.1.cell 0
        have c1 : w7.cell? ⟨w.heap.size, 1, none⟩ = some (.int .i64 0) := HR7.out.1.cell 1
        have c2 : w7.cell? ⟨w.heap.size, 2, none⟩ = some (.int .i64 0) := HR7.out.1.cell 2
        have f0 : w7.frozen? ⟨w.heap.size, 0, none⟩ = false := HR7.out.1.frozen 0
        have f1 : w7.frozen? ⟨w.heap.size, 1, none⟩ = false := HR7.out.1.frozen 1
        have f2 : w7.frozen? ⟨w.heap.size, 2, none⟩ = false := HR7.out.1.frozen 2
        have d0 : w7.cell? ⟨w.heap.size + 1, 0, none⟩ = some (.int .u64 v1) := HR7.out.2.1.cell 0
        have d1 : w7.cell? ⟨w.heap.size + 1, 1, none⟩ = some (.int .i64 v2) := HR7.out.2.1.cell 1
        have d2 : w7.cell? ⟨w.heap.size + 1, 2, none⟩ = some (.int .i64 v3) := HR7.out.2.1.cell 2
        go_wp2_with fail
        exact bodyPost_ret (v := .tuple #[.agg #[.int .u64 0, .int .i64 0, .int .i64 0], .bool false]) (by simp [results, Try.results34, go_sem, c0, c1, c2]) rfl ⟨by rw [hres.out]; rfl, ((Frm.setCell (p := ⟨w.heap.size, 0, none⟩) HR7.out.2.2 (.inl (Nat.le_refl _)) _).setCell (p := ⟨w.heap.size, 1, none⟩) (.inl (Nat.le_refl _)) _).setCell (p := ⟨w.heap.size, 2, none⟩) (.inl (Nat.le_refl _)) _⟩
      | true =>
        rw [hsb] at HMy
        by_cases hxe : supS v1 v2 v3 = t
        · have hres := hid (Heq.out hsb hxe)
          rw [hxe] at HPu
          clear hsb hxe Hne Hbad Heq
          go_wp2_with fail
          refine (HMy.out _).mono ?_
          rintro r w6 ⟨rfl, hf6⟩
          clear c0 c1 c2 f0 f1 f2 d0 d1 d2
          have HR6 : Hid (Blk w6 w.heap.size 53 [.int .u64 0, .int .i64 0, .int .i64 0] ∧ Blk w6 (w.heap.size + 1) 53 [.int .u64 v1, .int .i64 v2, .int .i64 v3] ∧ Nul w w6) := hid ⟨HR3.out.1.nul hf6, HR3.out.2.1.nul hf6, HR3.out.2.2.nul hf6⟩
          clear hf6
          have c0 : w6.cell? ⟨w.heap.size, 0, none⟩ = some (.int .u64 0) := HR6.out.1.cell 0
          have c1 : w6.cell? ⟨w.heap.size, 1, none⟩ = some (.int .i64 0) := HR6.out.1.cell 1
          have c2 : w6.cell? ⟨w.heap.size, 2, none⟩ = some (.int .i64 0) := HR6.out.1.cell 2
          have f0 : w6.frozen? ⟨w.heap.size, 0, none⟩ = false := HR6.out.1.frozen 0
          have f1 : w6.frozen? ⟨w.heap.size, 1, none⟩ = false := HR6.out.1.frozen 1
          have f2 : w6.frozen? ⟨w.heap.size, 2, none⟩ = false := HR6.out.1.frozen 2
          have d0 : w6.cell? ⟨w.heap.size + 1, 0, none⟩ = some (.int .u64 v1) := HR6.out.2.1.cell 0
          have d1 : w6.cell? ⟨w.heap.size + 1, 1, none⟩ = some (.int .i64 v2) := HR6.out.2.1.cell 1
          have d2 : w6.cell? ⟨w.heap.size + 1, 2, none⟩ = some (.int .i64 v3) := HR6.out.2.1.cell 2
          go_wp2_with fail
          refine (HPu.out _).mono ?_
          rintro r w7 ⟨rfl, hf7⟩
          clear c0 c1 c2 f0 f1 f2 d0 d1 d2
          have HR7 : Hid (Blk w7 w.heap.size 53 [.int .u64 0, .int .i64 0, .int .i64 0] ∧ Blk w7 (w.heap.size + 1) 53 [.int .u64 v1, .int .i64 v2, .int .i64 v3] ∧ Nul w w7) := hid ⟨HR6.out.1.nul hf7, HR6.out.2.1.nul hf7, HR6.out.2.2.nul hf7⟩
          clear hf7
          have c0 : w7.cell? ⟨w.heap.size, 0, none⟩ = some (.int .u64 0) := HR7.out.1.cell 0
          have c1 : w7.cell? ⟨w.heap.size, 1, none⟩ = some (.int .i64 0) := HR7.out.1.cell 1
          have c2 : w7.cell? ⟨w.heap.size, 2, none⟩ = some (.int .i64 0) := HR7.out.1.cell 2
          have f0 : w7.frozen? ⟨w.heap.size, 0, none⟩ = false := HR7.out.1.frozen 0
          have f1 : w7.frozen? ⟨w.heap.size, 1, none⟩ = false := HR7.out.1.frozen 1
          have f2 : w7.frozen? ⟨w.heap.size, 2, none⟩ = false := HR7.out.1.frozen 2
          have d0 : w7.cell? ⟨w.heap.size + 1, 0, none⟩ = some (.int .u64 v1) := HR7.out.2.1.cell 0
          have d1 : w7.cell? ⟨w.heap.size + 1, 1, none⟩ = some (.int .i64 v2) := HR7.out.2.1.cell 1
          have d2 : w7.cell? ⟨w.heap.size + 1, 2, none⟩ = some (.int .i64 v3) := HR7.out.2.1.cell 2
          go_wp2_with fail
          exact bodyPost_ret (v := .tuple #[.agg #[.int .u64 v1, .int .i64 v2, .int .i64 v3], .bool true]) (by simp [results, Try.results34, go_sem, c0, c1, c2]) rfl ⟨by rw [hres.out]; rfl, ((Frm.setCell (p := ⟨w.heap.size, 0, none⟩) HR7.out.2.2 (.inl (Nat.le_refl _)) _).setCell (p := ⟨w.heap.size, 1, none⟩) (.inl (Nat.le_refl _)) _).setCell (p := ⟨w.heap.size, 2, none⟩) (.inl (Nat.le_refl _)) _⟩
        · have hres := hid (Hne.out hxe)
          have b1 : ((supS v1 v2 v3).toList == t.toList) = false := by
            simp only [beq_eq_false_iff_ne, ne_eq]
            intro h
            exact hxe (ByteArray.ext (by
              have := congrArg List.toArray h
              simpa [ByteArray.toList_eq] using this))
          clear hsb hxe Hne Hbad Heq
          generalize supS v1 v2 v3 = x at HPu b1
          go_wp2_with fail
          refine (HMy.out _).mono ?_
          rintro r w6 ⟨rfl, hf6⟩
          clear c0 c1 c2 f0 f1 f2 d0 d1 d2
          have HR6 : Hid (Blk w6 w.heap.size 53 [.int .u64 0, .int .i64 0, .int .i64 0] ∧ Blk w6 (w.heap.size + 1) 53 [.int .u64 v1, .int .i64 v2, .int .i64 v3] ∧ Nul w w6) := hid ⟨HR3.out.1.nul hf6, HR3.out.2.1.nul hf6, HR3.out.2.2.nul hf6⟩
          clear hf6
          have c0 : w6.cell? ⟨w.heap.size, 0, none⟩ = some (.int .u64 0) := HR6.out.1.cell 0
          have c1 : w6.cell? ⟨w.heap.size, 1, none⟩ = some (.int .i64 0) := HR6.out.1.cell 1
          have c2 : w6.cell? ⟨w.heap.size, 2, none⟩ = some (.int .i64 0) := HR6.out.1.cell 2
          have f0 : w6.frozen? ⟨w.heap.size, 0, none⟩ = false := HR6.out.1.frozen 0
          have f1 : w6.frozen? ⟨w.heap.size, 1, none⟩ = false := HR6.out.1.frozen 1
          have f2 : w6.frozen? ⟨w.heap.size, 2, none⟩ = false := HR6.out.1.frozen 2
          have d0 : w6.cell? ⟨w.heap.size + 1, 0, none⟩ = some (.int .u64 v1) := HR6.out.2.1.cell 0
          have d1 : w6.cell? ⟨w.heap.size + 1, 1, none⟩ = some (.int .i64 v2) := HR6.out.2.1.cell 1
          have d2 : w6.cell? ⟨w.heap.size + 1, 2, none⟩ = some (.int .i64 v3) := HR6.out.2.1.cell 2
          go_wp2_with fail
          refine (HPu.out _).mono ?_
          rintro r w7 ⟨rfl, hf7⟩
          clear c0 c1 c2 f0 f1 f2 d0 d1 d2
          have HR7 : Hid (Blk w7 w.heap.size 53 [.int .u64 0, .int .i64 0, .int .i64 0] ∧ Blk w7 (w.heap.size + 1) 53 [.int .u64 v1, .int .i64 v2, .int .i64 v3] ∧ Nul w w7) := hid ⟨HR6.out.1.nul hf7, HR6.out.2.1.nul hf7, HR6.out.2.2.nul hf7⟩
          clear hf7
          have c0 : w7.cell? ⟨w.heap.size, 0, none⟩ = some (.int .u64 0) := HR7.out.1.cell 0
          have c1 : w7.cell? ⟨w.heap.size, 1, none⟩ = some (.int .i64 0) := HR7.out.1.cell 1
          have c2 : w7.cell? ⟨w.heap.size, 2, none⟩ = some (.int .i64 0) := HR7.out.1.cell 2
          have f0 : w7.frozen? ⟨w.heap.size, 0, none⟩ = false := HR7.out.1.frozen 0
          have f1 : w7.frozen? ⟨w.heap.size, 1, none⟩ = false := HR7.out.1.frozen 1
          have f2 : w7.frozen? ⟨w.heap.size, 2, none⟩ = false := HR7.out.1.frozen 2
          have d0 : w7.cell? ⟨w.heap.size + 1, 0, none⟩ = some (.int .u64 v1) := HR7.out.2.1.cell 0
          have d1 : w7.cell? ⟨w.heap.size + 1, 1, none⟩ = some (.int .i64 v2) := HR7.out.2.1.cell 1
          have d2 : w7.cell? ⟨w.heap.size + 1, 2, none⟩ = some (.int .i64 v3) := HR7.out.2.1.cell 2
          go_wp2_with fail
          exact bodyPost_ret (v := .tuple #[.agg #[.int .u64 0, .int .i64 0, .int .i64 0], .bool false]) (by simp [results, Try.results34, go_sem, c0, c1, c2]) rfl ⟨by rw [hres.out]; rfl, ((Frm.setCell (p := ⟨w.heap.size, 0, none⟩) HR7.out.2.2 (.inl (Nat.le_refl _)) _).setCell (p := ⟨w.heap.size, 1, none⟩) (.inl (Nat.le_refl _)) _).setCell (p := ⟨w.heap.size, 2, none⟩) (.inl (Nat.le_refl _)) _⟩
  · have s5 : ((t.size : Int) == 128) = false := by simp; omega
    have s6 : ((t.size : Int) != 128) = true := by simp; omega
    have hres := hid (supR_size h128)
    clear h128
    go_enter Try.func34, Try.ntmps34
    go_wp2_with fail
    exact bodyPost_ret (v := .tuple #[.agg #[.int .u64 0, .int .i64 0, .int .i64 0], .bool false]) (by simp [results, Try.results34, go_sem]) rfl ⟨by rw [hres.out]; rfl, (Frm.refl _ _).alloc _⟩
end Go.Proofs.Ytdpffgcekjdneaa
