/-
  Walks: reading a super.
-/
import Derived.Test.YtdpffgcekjdneaaSupC
set_option linter.all false
namespace Go.Proofs.Ytdpffgcekjdneaa
open Go.RowKit

theorem numC_lt (s : ByteArray) (e : Int) (n : Nat) (h1 : 1 ≤ n) (h8 : n ≤ 8) : (numC s e n).1 < 256 ^ n := by
  unfold numC
  simp only
  rw [if_neg (by omega)]
  have hsz : (takeC s e n).1.size ≤ n := by
    unfold takeC
    split
    · simp
    · split
      · simp
      · simp only [ByteArray.size_extract]; omega
  unfold wval
  refine Nat.lt_of_lt_of_le (vnat_lt _) (Nat.pow_le_pow_right (by omega) ?_)
  rw [List.length_take]
  have : (takeC s e n).1.data.toList.length = (takeC s e n).1.size := rfl
  omega

/-- What is taken out of a sector. -/
def cutP (t : ByteArray) : Sup :=
  ⟨(numC (takeC t 0 1).2.1 (takeC t 0 1).2.2 8).1, (numC (numC (takeC t 0 1).2.1 (takeC t 0 1).2.2 8).2.1 (numC (takeC t 0 1).2.1 (takeC t 0 1).2.2 8).2.2 1).1,
    (numC (numC (numC (takeC t 0 1).2.1 (takeC t 0 1).2.2 8).2.1 (numC (takeC t 0 1).2.1 (takeC t 0 1).2.2 8).2.2 1).2.1 (numC (numC (takeC t 0 1).2.1 (takeC t 0 1).2.2 8).2.1 (numC (takeC t 0 1).2.1 (takeC t 0 1).2.2 8).2.2 1).2.2 4).1⟩

theorem ext_ext (s : ByteArray) (p a b : Nat) (hp : p ≤ s.size) (hb : p + b ≤ s.size) : (s.extract p s.size).extract a b = s.extract (p + a) (p + b) := by
  rw [ByteArray.extract_extract]
  congr 1
  omega
theorem ext_size (s : ByteArray) (p : Nat) (hp : p ≤ s.size) : (s.extract p s.size).size = s.size - p := by
  simp only [ByteArray.size_extract]; omega
theorem takeC_ok (s : ByteArray) (p m : Nat) (h : p + m ≤ s.size) : takeC (s.extract p s.size) 0 m = (s.extract p (p + m), s.extract (p + m) s.size, 0) := by
  have hsz := ext_size s p (by omega)
  unfold takeC
  rw [if_neg (by simp), if_neg (by rw [hsz]; omega), hsz, show ((m : Nat) : Int).toNat = m from by omega, ext_ext s p 0 m (by omega) h, ext_ext s p m (s.size - p) (by omega) (by omega)]
  simp only [Nat.add_zero]
  rw [show p + (s.size - p) = s.size from by omega]
theorem numC_ok (s : ByteArray) (p m : Nat) (h1 : 1 ≤ m) (h8 : m ≤ 8) (h : p + m ≤ s.size) : numC (s.extract p s.size) 0 m = (wval (s.extract p (p + m)), s.extract (p + m) s.size, 0) := by
  unfold numC
  rw [if_neg (by omega), takeC_ok s p m h]
theorem cutP_eq {t : ByteArray} (h : t.size = 128) : cutP t = supP t := by
  have h0 : takeC t 0 1 = (t.extract 0 1, t.extract 1 t.size, 0) := by
    have := takeC_ok t 0 1 (by omega)
    rw [ByteArray.extract_zero_size] at this
    simpa using this
  have h1 : numC (t.extract 1 t.size) 0 8 = (wval (t.extract 1 9), t.extract 9 t.size, 0) := numC_ok t 1 8 (by omega) (by omega) (by omega)
  have h2 : numC (t.extract 9 t.size) 0 1 = (wval (t.extract 9 10), t.extract 10 t.size, 0) := numC_ok t 9 1 (by omega) (by omega) (by omega)
  have h3 : numC (t.extract 10 t.size) 0 4 = (wval (t.extract 10 14), t.extract 14 t.size, 0) := numC_ok t 10 4 (by omega) (by omega) (by omega)
  unfold cutP
  rw [h0]
  simp only
  rw [h1]
  simp only
  rw [h2]
  simp only
  rw [h3]
  rfl
/-- What reading a super answers. -/
def supR (t : ByteArray) : Sup × Int := match supOf t with
  | some s => (s, 0)
  | none => (Sup.zero, 6)
theorem supR_bad {t : ByteArray} (h : supB (cutP t).g (cutP t).a (cutP t).l = false) : supR t = (Sup.zero, 6) := by
  unfold supR supOf
  rw [if_neg]
  rintro ⟨h1, h2, _⟩
  rw [cutP_eq h1, h2] at h
  cases h
theorem supR_ne {t : ByteArray} (h : supS (cutP t).g (cutP t).a (cutP t).l ≠ t) : supR t = (Sup.zero, 6) := by
  unfold supR supOf
  rw [if_neg]
  rintro ⟨h1, _, h2⟩
  rw [cutP_eq h1] at h
  exact h h2
theorem supR_eq {t : ByteArray} (h1 : supB (cutP t).g (cutP t).a (cutP t).l = true) (h2 : supS (cutP t).g (cutP t).a (cutP t).l = t) : supR t = (cutP t, 0) := by
  have hs : t.size = 128 := by rw [← h2]; exact supS_size _ _ _
  unfold supR supOf
  rw [cutP_eq hs] at h1 h2 ⊢
  rw [if_pos ⟨hs, h1, h2⟩]

set_option maxRecDepth 100000 in
set_option maxHeartbeats 1600000 in
theorem sup_Get (t : ByteArray) (w : World) (hs : t.size ≤ 140737488351232) :
    Calls Try.prog 33 #[.string t] w fun e w' => e = .returned (.tuple #[supV (supR t).1, .int .i64 (supR t).2]) ∧ Nul w w' := by
  obtain ⟨v, hv⟩ : ∃ v, cutP t = v := ⟨_, rfl⟩
  have hbad := @supR_bad t
  have hne := @supR_ne t
  have heq := @supR_eq t
  rw [hv] at hbad hne heq
  have Hbad := hid hbad
  have Hne := hid hne
  have Heq := hid heq
  have HT := hid (takeC_size t 0 1)
  unfold cutP at hv
  generalize hp0 : takeC t 0 1 = p0 at hv HT
  obtain ⟨x0, s0, e0⟩ := p0
  have hs0 : s0.size ≤ 140737488351232 := Nat.le_trans HT.out.2 hs
  simp only at hv
  have hl1 := numC_lt s0 e0 8 (by omega) (by omega)
  have hz1 := numC_size s0 e0 8
  generalize hp1 : numC s0 e0 8 = p1 at hv hl1 hz1
  obtain ⟨v1, s1, e1⟩ := p1
  simp only at hv hl1 hz1
  have hl2 := numC_lt s1 e1 1 (by omega) (by omega)
  have hz2 := numC_size s1 e1 1
  generalize hp2 : numC s1 e1 1 = p2 at hv hl2 hz2
  obtain ⟨v2, s2, e2⟩ := p2
  simp only at hv hl2 hz2
  have hl3 := numC_lt s2 e2 4 (by omega) (by omega)
  generalize hp3 : numC s2 e2 4 = p3 at hv hl3
  obtain ⟨v3, s3, e3⟩ := p3
  simp only at hv hl3
  subst hv
  have HB : Hid (v1 < 18446744073709551616 ∧ v2 < 256 ∧ v3 < 4294967296) := hid ⟨hl1, by simpa using hl2, by simpa using hl3⟩
  have HP : Hid (takeC t 0 1 = (x0, s0, e0) ∧ numC s0 e0 8 = (v1, s1, e1) ∧ numC s1 e1 1 = (v2, s2, e2) ∧ numC s2 e2 4 = (v3, s3, e3)) := hid ⟨hp0, hp1, hp2, hp3⟩
  have HZ : Hid (s0.size ≤ 140737488351232 ∧ s1.size ≤ 140737488351232 ∧ s2.size ≤ 140737488351232) := hid ⟨hs0, by omega, by omega⟩
  clear hbad hne heq HT hp0 hp1 hp2 hp3 hl1 hl2 hl3 hz1 hz2 hs0
  go_enter Try.func33, Try.ntmps33
  go_wp2_with fail
  refine (wide_On2 t _).mono ?_
  rintro e w1 ⟨rfl, hc1, hf1⟩
  have hbs : ((w.alloc (.cells #[.int .u64 0, .int .i64 0, .int .i64 0] 53)).heap.size) = w.heap.size + 1 := by simp
  rw [hbs] at hc1
  have HR1 : Hid (CutAt w1 (w.heap.size + 1) t 0 ∧ Blk w1 w.heap.size 53 [.int .u64 0, .int .i64 0, .int .i64 0] ∧ Nul w w1) := hid ⟨hc1, (Blk.new w 53 [.int .u64 0, .int .i64 0, .int .i64 0]).nul hf1, ((Frm.refl (fun _ => False) w).alloc _).nul hf1⟩
  have hlt : w.heap.size + 1 < w1.heap.size := HR1.out.1.lt
  have Hlt := hid hlt
  clear hbs hc1 hf1 hlt
  go_wp2_with fail
  have HR2 : Hid (CutAt (w1.alloc (.cells #[.pointer (some ⟨w.heap.size + 1, 0, none⟩)] 97)) (w.heap.size + 1) t 0 ∧ Blk (w1.alloc (.cells #[.pointer (some ⟨w.heap.size + 1, 0, none⟩)] 97)) w.heap.size 53 [.int .u64 0, .int .i64 0, .int .i64 0] ∧ Blk (w1.alloc (.cells #[.pointer (some ⟨w.heap.size + 1, 0, none⟩)] 97)) w1.heap.size 97 [.pointer (some ⟨w.heap.size + 1, 0, none⟩)] ∧ Nul w (w1.alloc (.cells #[.pointer (some ⟨w.heap.size + 1, 0, none⟩)] 97))) := hid ⟨Blk.alloc HR1.out.1 _, HR1.out.2.1.alloc _, Blk.new w1 _ [.pointer (some ⟨w.heap.size + 1, 0, none⟩)], HR1.out.2.2.alloc _⟩
  have HTk := hid (cut_Take (w.heap.size + 1) t 0 1 _ HR2.out.1 hs)
  rw [HP.out.1] at HTk
  refine HTk.out.mono ?_
  rintro r w3 ⟨rfl, hc3, hf3⟩
  have HR3 : Hid (CutAt w3 (w.heap.size + 1) s0 e0 ∧ Blk w3 w.heap.size 53 [.int .u64 0, .int .i64 0, .int .i64 0] ∧ Blk w3 w1.heap.size 97 [.pointer (some ⟨w.heap.size + 1, 0, none⟩)] ∧ Nul w w3) := hid ⟨hc3, HR2.out.2.1.one hf3 (by omega), HR2.out.2.2.1.one hf3 (by have := Hlt.out; omega), HR2.out.2.2.2.one hf3 (.inl (by omega))⟩
  clear hc3 hf3 HTk
  have hg3 : w3.cell? ⟨w1.heap.size, 0, none⟩ = some (.pointer (some ⟨w.heap.size + 1, 0, none⟩)) := HR3.out.2.2.1.cell 0
  have HN1 := hid (cut_Num (w.heap.size + 1) s0 e0 8 w3 HR3.out.1 HZ.out.1)
  rw [HP.out.2.1] at HN1
  go_wp2_with fail
  clear hg3
  refine HN1.out.mono ?_
  rintro r w4 ⟨rfl, hc4, hf4⟩
  have HR4 : Hid (CutAt w4 (w.heap.size + 1) s1 e1 ∧ Blk w4 w.heap.size 53 [.int .u64 0, .int .i64 0, .int .i64 0] ∧ Blk w4 w1.heap.size 97 [.pointer (some ⟨w.heap.size + 1, 0, none⟩)] ∧ Nul w w4) := hid ⟨hc4, HR3.out.2.1.one hf4 (by omega), HR3.out.2.2.1.one hf4 (by have := Hlt.out; omega), HR3.out.2.2.2.one hf4 (.inl (by omega))⟩
  clear hc4 hf4 HN1
  have HN2 := hid (sup_Get1 w1.heap.size (w.heap.size + 1) s1 e1 1 w4 HR4.out.2.2.1 HR4.out.1 HZ.out.2.1 (by rw [HP.out.2.2.1]; have := HB.out; show v2 < _; omega))
  rw [HP.out.2.2.1] at HN2
  go_wp2_with fail
  refine HN2.out.mono ?_
  rintro r w5 ⟨rfl, hc5, hf5⟩
  have HR5 : Hid (CutAt w5 (w.heap.size + 1) s2 e2 ∧ Blk w5 w.heap.size 53 [.int .u64 0, .int .i64 0, .int .i64 0] ∧ Blk w5 w1.heap.size 97 [.pointer (some ⟨w.heap.size + 1, 0, none⟩)] ∧ Nul w w5) := hid ⟨hc5, HR4.out.2.1.one hf5 (by omega), HR4.out.2.2.1.one hf5 (by have := Hlt.out; omega), HR4.out.2.2.2.one hf5 (.inl (by omega))⟩
  clear hc5 hf5 HN2
  have HN3 := hid (sup_Get1 w1.heap.size (w.heap.size + 1) s2 e2 4 w5 HR5.out.2.2.1 HR5.out.1 HZ.out.2.2 (by rw [HP.out.2.2.2]; have := HB.out; show v3 < _; omega))
  rw [HP.out.2.2.2] at HN3
  go_wp2_with fail
  refine HN3.out.mono ?_
  rintro r w6 ⟨rfl, hc6, hf6⟩
  have HR6 : Hid (Blk w6 w.heap.size 53 [.int .u64 0, .int .i64 0, .int .i64 0] ∧ Nul w w6) := hid ⟨HR5.out.2.1.one hf6 (by omega), HR5.out.2.2.2.one hf6 (.inl (by omega))⟩
  clear hc6 hf6 HN3
  cases hsb : supB v1 v2 v3 with
  | false =>
    have hres := hid (Hbad.out hsb)
    have HPu := hid (fun w => sup_Put_bad v1 v2 v3 w hsb)
    clear hsb
    go_wp2_with fail
    refine (HPu.out _).mono ?_
    rintro r w7 ⟨rfl, hf7⟩
    have HR7 : Hid (Blk w7 w.heap.size 53 [.int .u64 0, .int .i64 0, .int .i64 0] ∧ Nul w w7) := hid ⟨(HR6.out.1.alloc _).nul hf7, (HR6.out.2.alloc _).nul hf7⟩
    have c0 : w7.cell? ⟨w.heap.size, 0, none⟩ = some (.int .u64 0) := HR7.out.1.cell 0
    have c1 : w7.cell? ⟨w.heap.size, 1, none⟩ = some (.int .i64 0) := HR7.out.1.cell 1
    have c2 : w7.cell? ⟨w.heap.size, 2, none⟩ = some (.int .i64 0) := HR7.out.1.cell 2
    have f0 : w7.frozen? ⟨w.heap.size, 0, none⟩ = false := HR7.out.1.frozen 0
    have f1 : w7.frozen? ⟨w.heap.size, 1, none⟩ = false := HR7.out.1.frozen 1
    have f2 : w7.frozen? ⟨w.heap.size, 2, none⟩ = false := HR7.out.1.frozen 2
    clear hf7
    go_wp2_with fail
    exact bodyPost_ret (v := .tuple #[.agg #[.int .u64 0, .int .i64 0, .int .i64 0], .int .i64 6]) (by simp [results, Try.results33, go_sem, c0, c1, c2]) rfl ⟨by rw [hres.out]; rfl, ((Frm.setCell (p := ⟨w.heap.size, 0, none⟩) HR7.out.2 (.inl (Nat.le_refl _)) _).setCell (p := ⟨w.heap.size, 1, none⟩) (.inl (Nat.le_refl _)) _).setCell (p := ⟨w.heap.size, 2, none⟩) (.inl (Nat.le_refl _)) _⟩
  | true =>
    have HPu := hid (fun w => sup_Put_go v1 v2 v3 w hsb HB.out.1 (by have := HB.out; omega) (by have := HB.out; omega))
    by_cases hxe : supS v1 v2 v3 = t
    · have hres := hid (Heq.out hsb hxe)
      rw [hxe] at HPu
      clear hsb hxe Hne Hbad Heq
      go_wp2_with fail
      refine (HPu.out _).mono ?_
      rintro r w7 ⟨rfl, hf7⟩
      have hv7 := (Blk.new w6 53 [.int .u64 v1, .int .i64 v2, .int .i64 v3]).nul hf7
      have d0 : w7.cell? ⟨w6.heap.size, 0, none⟩ = some (.int .u64 v1) := hv7.cell 0
      have d1 : w7.cell? ⟨w6.heap.size, 1, none⟩ = some (.int .i64 v2) := hv7.cell 1
      have d2 : w7.cell? ⟨w6.heap.size, 2, none⟩ = some (.int .i64 v3) := hv7.cell 2
      have HR7 : Hid (Blk w7 w.heap.size 53 [.int .u64 0, .int .i64 0, .int .i64 0] ∧ Nul w w7) := hid ⟨(HR6.out.1.alloc _).nul hf7, (HR6.out.2.alloc _).nul hf7⟩
      have c0 : w7.cell? ⟨w.heap.size, 0, none⟩ = some (.int .u64 0) := HR7.out.1.cell 0
      have c1 : w7.cell? ⟨w.heap.size, 1, none⟩ = some (.int .i64 0) := HR7.out.1.cell 1
      have c2 : w7.cell? ⟨w.heap.size, 2, none⟩ = some (.int .i64 0) := HR7.out.1.cell 2
      have f0 : w7.frozen? ⟨w.heap.size, 0, none⟩ = false := HR7.out.1.frozen 0
      have f1 : w7.frozen? ⟨w.heap.size, 1, none⟩ = false := HR7.out.1.frozen 1
      have f2 : w7.frozen? ⟨w.heap.size, 2, none⟩ = false := HR7.out.1.frozen 2
      clear hf7 hv7
      go_wp2_with fail
      exact bodyPost_ret (v := .tuple #[.agg #[.int .u64 v1, .int .i64 v2, .int .i64 v3], .int .i64 0]) (by simp [results, Try.results33, go_sem, c0, c1, c2]) rfl ⟨by rw [hres.out]; rfl, ((Frm.setCell (p := ⟨w.heap.size, 0, none⟩) HR7.out.2 (.inl (Nat.le_refl _)) _).setCell (p := ⟨w.heap.size, 1, none⟩) (.inl (Nat.le_refl _)) _).setCell (p := ⟨w.heap.size, 2, none⟩) (.inl (Nat.le_refl _)) _⟩
    · have hres := hid (Hne.out hxe)
      have b1 : ((supS v1 v2 v3).toList == t.toList) = false := by
        simp only [beq_eq_false_iff_ne, ne_eq]
        intro h
        exact hxe (ByteArray.ext (by
          have := congrArg List.toArray h
          simpa [ByteArray.toList_eq] using this))
      clear hsb hxe Hne Hbad Heq
      generalize supS v1 v2 v3 = x at HPu b1
      go_wp2_with fail
      refine (HPu.out _).mono ?_
      rintro r w7 ⟨rfl, hf7⟩
      have HR7 : Hid (Blk w7 w.heap.size 53 [.int .u64 0, .int .i64 0, .int .i64 0] ∧ Nul w w7) := hid ⟨(HR6.out.1.alloc _).nul hf7, (HR6.out.2.alloc _).nul hf7⟩
      have c0 : w7.cell? ⟨w.heap.size, 0, none⟩ = some (.int .u64 0) := HR7.out.1.cell 0
      have c1 : w7.cell? ⟨w.heap.size, 1, none⟩ = some (.int .i64 0) := HR7.out.1.cell 1
      have c2 : w7.cell? ⟨w.heap.size, 2, none⟩ = some (.int .i64 0) := HR7.out.1.cell 2
      have f0 : w7.frozen? ⟨w.heap.size, 0, none⟩ = false := HR7.out.1.frozen 0
      have f1 : w7.frozen? ⟨w.heap.size, 1, none⟩ = false := HR7.out.1.frozen 1
      have f2 : w7.frozen? ⟨w.heap.size, 2, none⟩ = false := HR7.out.1.frozen 2
      clear hf7
      go_wp2_with fail
      exact bodyPost_ret (v := .tuple #[.agg #[.int .u64 0, .int .i64 0, .int .i64 0], .int .i64 6]) (by simp [results, Try.results33, go_sem, c0, c1, c2]) rfl ⟨by rw [hres.out]; rfl, ((Frm.setCell (p := ⟨w.heap.size, 0, none⟩) HR7.out.2 (.inl (Nat.le_refl _)) _).setCell (p := ⟨w.heap.size, 1, none⟩) (.inl (Nat.le_refl _)) _).setCell (p := ⟨w.heap.size, 2, none⟩) (.inl (Nat.le_refl _)) _⟩
end Go.Proofs.Ytdpffgcekjdneaa
