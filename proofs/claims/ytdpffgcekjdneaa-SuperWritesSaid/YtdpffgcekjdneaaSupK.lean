/-
  Walks: what must come at any rate of supers; the law of a super's sector.
-/
import Derived.Test.YtdpffgcekjdneaaSupJ
set_option linter.all false
namespace Go.Proofs.Ytdpffgcekjdneaa
open Go.RowKit

theorem wval_numS (n k : Nat) (hk : k ≤ 8) : wval (numS n k) = n % 256 ^ k := by
  unfold wval numS
  have : ((⟨(numL n k).toArray⟩ : ByteArray).data.toList.take 8) = numL n k := by
    simp only []
    rw [List.take_of_length_le]
    rw [numL_length]; exact hk
  rw [this, vnat_numL]

theorem supS_list (g a l : Nat) : (supS g a l).data.toList = 83 :: (numL g 8 ++ (numL a 1 ++ (numL l 4 ++ List.replicate 114 0))) := by
  unfold supS fullS
  rw [supS_14]
  simp [ByteArray.data_append, numS, zeroS]
theorem ext_list (t : ByteArray) (i j : Nat) : t.extract i j = ⟨((t.data.toList.take j).drop i).toArray⟩ := by
  apply ByteArray.ext
  apply Array.ext'
  simp [List.extract_eq_drop_take, List.drop_take]
theorem supP_supS (g a l : Nat) : supP (supS g a l) = ⟨g % 256 ^ 8, a % 256 ^ 1, l % 256 ^ 4⟩ := by
  have h8 := numL_length g 8
  have h1 := numL_length a 1
  have h4 := numL_length l 4
  unfold supP
  have e1 : (supS g a l).extract 1 9 = numS g 8 := by
    rw [ext_list, supS_list]
    unfold numS
    congr 2
  have e2 : (supS g a l).extract 9 10 = numS a 1 := by
    rw [ext_list, supS_list]
    unfold numS
    congr 2
  have e3 : (supS g a l).extract 10 14 = numS l 4 := by
    rw [ext_list, supS_list]
    unfold numS
    congr 2
  rw [e1, e2, e3, wval_numS _ _ (by omega), wval_numS _ _ (by omega), wval_numS _ _ (by omega)]
theorem supR_supS {g a l : Nat} (h : supB g a l = true) : supR (supS g a l) = (⟨g, a, l⟩, 0) := by
  obtain ⟨g0, g1, a0, a1, l0, l1⟩ := supB_true h
  have hp := supP_supS g a l
  rw [Nat.mod_eq_of_lt (show g < 256 ^ 8 by omega), Nat.mod_eq_of_lt (show a < 256 ^ 1 by omega), Nat.mod_eq_of_lt (show l < 256 ^ 4 by omega)] at hp
  unfold supR supOf
  rw [hp, if_pos ⟨supS_size _ _ _, h, rfl⟩]

section
variable {w0 w : World} {b N : Nat} {d : Dk}
theorem nw_SWrite (h : DiskIn (w0.heap.size ≤ ·) w b N d) (hw : w0.heap.size ≤ w.heap.size) (hN : N + 2 ≤ 99999) (a l : Int) :
    Calls Try.prog 35 #[.pointer (some ⟨b, 0, none⟩), .int .i64 a, .int .i64 l] w fun e w' =>
      e = .returned (.int .i64 (d.swrite a l).1) ∧ DiskIn (w0.heap.size ≤ ·) w' b (N + 2) (d.swrite a l).2 ∧ Frm (w0.heap.size ≤ ·) w w' := by
  refine (sup_Write h hN a l).mono ?_
  rintro e w' ⟨rfl, hD, hf⟩
  refine ⟨rfl, hD.mono (fun k _ hk => ?_), hf⟩
  rcases hk with hk | hk
  · exact hk
  · exact Nat.le_trans hw hk.1
end

noncomputable def as1 : Dk := ((dk0 4 []).swrite 1 5).2
noncomputable def as2 : Dk := (as1.swrite 0 7).2
theorem as_1 : ((dk0 4 []).swrite 1 5).1 = 0 := by decide +kernel
theorem as_2 : (as1.swrite 0 7).1 = 0 := by decide +kernel
theorem as_3 : (newR as2).1.g = 2 ∧ (newR as2).1.a = 0 ∧ (newR as2).1.l = 7 ∧ (newR as2).2.1 = 1 ∧ (newR as2).2.2 = 0 := by decide +kernel
theorem as_4 : newR as2 = (⟨2, 0, 7⟩, 1, 0) := by
  obtain ⟨h1, h2, h3, h4, h5⟩ := as_3
  generalize newR as2 = x at *
  obtain ⟨⟨g, a, l⟩, at_, e⟩ := x
  simp only at h1 h2 h3 h4 h5
  subst h1 h2 h3 h4 h5
  rfl

set_option maxRecDepth 100000 in
set_option maxHeartbeats 1000000 in
theorem awake22 (w : World) : Calls Try.prog 28 #[] w fun e w' => e = .returned (.bool true) ∧ Nul w w' := by
  have U1 := hid as_1
  have U2 := hid as_2
  have HPu : Hid (∀ w, Calls Try.prog 29 #[.agg #[.int .u64 2, .int .i64 0, .int .i64 7]] w fun e w' => e = .returned (.tuple #[.string (supS 2 0 7), .int .i64 0]) ∧ Nul w w') := hid (fun w => sup_Put_go 2 0 7 w (by decide +kernel) (by decide) (by decide) (by decide))
  have HGe : Hid (∀ w, Calls Try.prog 33 #[.string (supS 2 0 7)] w fun e w' => e = .returned (.tuple #[.agg #[.int .u64 2, .int .i64 0, .int .i64 7], .int .i64 0]) ∧ Nul w w') := hid (fun w => by
    have h := sup_Get (supS 2 0 7) w (by rw [supS_size]; omega)
    rw [supR_supS (by decide +kernel)] at h
    exact h)
  have hs : ((supS 2 0 7).size : Int) = 128 := by rw [supS_size]; rfl
  have heq : ∀ w, (binOp .eql 53 (.agg #[.int .u64 2, .int .i64 0, .int .i64 7]) (.agg #[.int .u64 2, .int .i64 0, .int .i64 7])).run Try.prog w = .ok (.bool true) w := fun w => by rw [sup_eql]; rfl
  generalize supS 2 0 7 = x at HPu HGe hs
  go_enter Try.func28, Try.ntmps28
  go_wp2_with fail
  refine (in_New (S := fun _ => False) (n := 4) (A := none) (c := 0) (cr := []) (.inl rfl) (by omega) (by omega) (by decide) (by decide)).mono ?_
  rintro e w1 ⟨b, rfl, hD, hf⟩
  have H1 : Hid (DiskIn (w.heap.size ≤ ·) w1 b 0 (dk0 4 []) ∧ Nul w w1) := hid (And.intro (hD.mono (T := (w.heap.size ≤ ·)) (fun k _ hk => ext_none (Nat.le_refl _) k hk)) hf)
  clear hD hf
  go_wp2_with fail
  refine (nw_SWrite H1.out.1 H1.out.2.size (by omega) 1 5).mono ?_
  rintro e w2 ⟨he, hD, hf⟩
  rw [U1.out] at he
  subst he
  have H2 : Hid (DiskIn (w.heap.size ≤ ·) w2 b 2 as1 ∧ Nul w w2) := hid (And.intro hD (H1.out.2.news hf))
  clear hD hf
  go_wp2_with fail
  refine (nw_SWrite H2.out.1 H2.out.2.size (by omega) 0 7).mono ?_
  rintro e w3 ⟨he, hD, hf⟩
  rw [U2.out] at he
  subst he
  have H3 : Hid (DiskIn (w.heap.size ≤ ·) w3 b 4 as2 ∧ Nul w w3) := hid (And.intro hD (H2.out.2.news hf))
  clear hD hf
  have HNw : Hid (Calls Try.prog 36 #[.pointer (some ⟨b, 0, none⟩)] w3 fun e w' => e = .returned (.tuple #[.agg #[.int .u64 2, .int .i64 0, .int .i64 7], .int .i64 1, .int .i64 0]) ∧ Nul w3 w') := hid (by
    have h := sup_Newest H3.out.1 (by omega)
    rw [as_4] at h
    exact h)
  go_wp2_with fail
  refine HNw.out.mono ?_
  rintro e w4 ⟨rfl, hf4⟩
  have H4 : Hid (Nul w w4) := hid (H3.out.2.nul hf4)
  clear hf4
  have hB4 := Blk.new w4 53 [.int .u64 2, .int .i64 0, .int .i64 7]
  have HB4 := hid hB4
  clear hB4
  go_wp2_with fail
  refine (HPu.out _).mono ?_
  rintro e w5 ⟨rfl, hf5⟩
  have H5 := hid ((H4.out.alloc (.cells #[.int .u64 2, .int .i64 0, .int .i64 7] 53)).nul hf5)
  have HB5 := hid (HB4.out.nul hf5)
  clear hf5
  go_wp2_with fail
  refine (HGe.out _).mono ?_
  rintro e w6 ⟨rfl, hf6⟩
  have H6 := hid (H5.out.nul hf6)
  have hB6 := HB5.out.nul hf6
  have c0 : w6.cell? ⟨w4.heap.size, 0, none⟩ = some (.int .u64 2) := hB6.cell 0
  have c1 : w6.cell? ⟨w4.heap.size, 1, none⟩ = some (.int .i64 0) := hB6.cell 1
  have c2 : w6.cell? ⟨w4.heap.size, 2, none⟩ = some (.int .i64 7) := hB6.cell 2
  have cl : w4.heap.size < w6.heap.size := hB6.lt
  clear hf6 hB6
  go_wp2_with fail
  go_ret
  exact ⟨rfl, H6.out.alloc _⟩
end Go.Proofs.Ytdpffgcekjdneaa
