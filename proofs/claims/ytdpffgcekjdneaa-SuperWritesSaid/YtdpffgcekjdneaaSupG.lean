/-
  Walks: writing a super.
-/
import Derived.Test.YtdpffgcekjdneaaSupF
import Derived.Test.YtdpffgcekjdneaaAreaC
set_option linter.all false
namespace Go.Proofs.Ytdpffgcekjdneaa
open Go.RowKit

/-- Which sector is written. -/
def Dk.to (d : Dk) : Int := if (newest d).2 = 0 then 1 else 0
/-- What writing a super answers, and the disk behind it. -/
def Dk.swrite (d : Dk) (a l : Int) : Int × Dk :=
  if d.down then (12, d)
  else if supB ((newest d).1.g + 1 : Nat) a l = true ∧ 2 ≤ d.n then
    if (d.write d.to (supS ((newest d).1.g + 1) a.toNat l.toNat)).1 = 0 then (d.write d.to (supS ((newest d).1.g + 1) a.toNat l.toNat)).2.flush
    else d.write d.to (supS ((newest d).1.g + 1) a.toNat l.toNat)
  else (3, d)

theorem newest_in (d : Dk) : ((newest d).2 = -1 ∧ (newest d).1 = Sup.zero) ∨ (0 ≤ (newest d).2 ∧ (newest d).2 < 2 ∧ supB (newest d).1.g (newest d).1.a (newest d).1.l = true) := nst_in d 2 (by omega)
theorem newest_g (d : Dk) : (newest d).1.g ≤ 4611686018427387904 := by
  rcases newest_in d with ⟨_, h⟩ | ⟨_, _, h⟩
  · rw [h]; decide
  · have := supB_true h; omega

theorem DiskIn.alloc' {S : Nat → Prop} {w : World} {b N : Nat} {d : Dk} (h : DiskIn S w b N d) (o : Obj) : DiskIn S (w.alloc o) b N d := h.nul ((Frm.refl _ w).alloc o)
section
variable {S : Nat → Prop} {w : World} {b N : Nat} {d : Dk}
set_option maxRecDepth 100000 in
set_option maxHeartbeats 2000000 in
theorem sup_Write_up (h : DiskIn S w b N d) (hN : N + 2 ≤ 99999) (hd : d.down = false) (a l : Int) :
    Calls Try.prog 35 #[.pointer (some ⟨b, 0, none⟩), .int .i64 a, .int .i64 l] w fun e w' =>
      e = .returned (.int .i64 (d.swrite a l).1) ∧ DiskIn (ext S w w') w' b (N + 2) (d.swrite a l).2 ∧ Frm S w w' := by
  have HNw := hid (sup_Newest h (by omega))
  have hnr : newR d = if (newest d).2 < 0 then (Sup.zero, 0, 7) else ((newest d).1, (newest d).2, 0) := by unfold newR; rw [hd, if_neg (by decide)]
  rw [hnr] at HNw
  have hsw : d.swrite a l = if supB ((newest d).1.g + 1 : Nat) a l = true ∧ 2 ≤ d.n then
      if (d.write d.to (supS ((newest d).1.g + 1) a.toNat l.toNat)).1 = 0 then (d.write d.to (supS ((newest d).1.g + 1) a.toNat l.toNat)).2.flush
      else d.write d.to (supS ((newest d).1.g + 1) a.toNat l.toNat)
    else (3, d) := by unfold Dk.swrite; rw [hd, if_neg (by decide)]
  have hto : d.to = if (newest d).2 = 0 then 1 else 0 := rfl
  have hin := newest_in d
  have hgb := newest_g d
  obtain ⟨to, hto1⟩ : ∃ to, d.to = to := ⟨_, rfl⟩
  rw [hto1] at hsw hto
  generalize newest d = st at HNw hsw hto hin hgb
  obtain ⟨⟨g, sa, sl⟩, at_⟩ := st
  simp only at hsw hto hgb
  have Hsw := hid hsw
  have H := hid h
  have HSc := hid (fun w (h : DiskIn S w b N d) => in_Sectors h)
  have hu1 : IntKind.u64.wrap ((g : Int) + 1) = (g : Int) + 1 := IntWalk.u64_in _ (by omega)
  have hgc : ((g + 1 : Nat) : Int) = (g : Int) + 1 := by omega
  have Hgb := hid hgb
  have hgc' := hgc
  have h3 : (at_ = -1 ∧ g = 0 ∧ sa = 0 ∧ sl = 0) ∨ at_ = 0 ∨ at_ = 1 := by
    rcases hin with ⟨h1, h2⟩ | ⟨h1, h2, _⟩
    · simp only [Sup.zero, Sup.mk.injEq] at h2
      exact .inl ⟨h1, h2⟩
    · simp only at h1 h2
      omega
  clear hin hnr hgb
  rcases h3 with ⟨rfl, hz⟩ | rfl | rfl
  · rw [if_pos (by simp)] at HNw
    rw [if_neg (by simp)] at hto
    subst hto
    have hz2 : Sup.zero = ⟨g, sa, sl⟩ := by rw [hz.1, hz.2.1, hz.2.2]; rfl
    rw [hz2] at HNw
    clear hz hz2
    go_enter Try.func35, Try.ntmps35
    simp only [supV] at HNw
    have HNw2 := HNw
    clear HNw
    by_cases hsb : supB ((g : Int) + 1) a l = true
    · obtain ⟨_, _, a0, a1, l0, l1⟩ := supB_true hsb
      obtain ⟨A, rfl⟩ : ∃ A : Nat, a = (A : Int) := ⟨a.toNat, by omega⟩
      obtain ⟨L, rfl⟩ : ∃ L : Nat, l = (L : Int) := ⟨l.toNat, by omega⟩
      have hp := fun w => sup_Put_go (g + 1) A L w (by rw [hgc]; exact hsb) (by omega) (by omega) (by omega)
      rw [hgc] at hp
      have HPu := hid hp
      have hsw := Hsw.out
      rw [show ((A : Int)).toNat = A from by omega, show ((L : Int)).toNat = L from by omega] at hsw
      generalize hx : supS (g + 1) A L = x at HPu hsw
      have Hsb := hid hsb
      have Hsw2 := hid hsw
      clear hp hsw hsb hx Hsw hgc a0 a1 l0 l1
      go_wp2_with fail
      refine HNw2.out.mono ?_
      rintro e w1 ⟨rfl, hf1⟩
      have H1 := hid (And.intro (H.out.nul hf1) hf1)
      have d0 : (w1.alloc (.cells #[.int .u64 (g : Int), .int .i64 (sa : Int), .int .i64 (sl : Int)] 53)).cell? ⟨w1.heap.size, 0, none⟩ = some (.int .u64 g) := (Blk.new w1 53 [.int .u64 (g : Int), .int .i64 (sa : Int), .int .i64 (sl : Int)]).cell 0
      clear hf1
      go_wp2_with fail
      refine (HPu.out _).mono ?_
      rintro e w2 ⟨rfl, hf2⟩
      have H2 := hid (And.intro ((H1.out.1.alloc' _).nul hf2) ((H1.out.2.alloc _).nul hf2))
      clear hf2
      have HSe := hid (in_Sectors H2.out.1)
      generalize hnn : d.n = n at HSe Hsw2
      by_cases h2 : n < 2
      · have e2 : decide ((n : Int) < 2) = true := decide_eq_true (by omega)
        have hfin : d.swrite A L = (3, d) := by rw [Hsw2.out, if_neg (by omega)]
        have Hfin := hid hfin
        clear hfin h2
        go_wp2_with fail
        refine HSe.out.mono ?_
        rintro e w' ⟨rfl, rfl⟩
        go_wp2_with fail
        go_ret
        rw [Hfin.out]
        exact ⟨rfl, (H2.out.1.mono (fun k hk h => .inl h)).up (by omega), Frm.of_nul H2.out.2⟩
      · have e2 : decide ((n : Int) < 2) = false := decide_eq_false (by omega)
        have hfin : d.swrite A L = if (d.write 0 x).1 = 0 then (d.write 0 x).2.flush else d.write 0 x := by rw [Hsw2.out, if_pos ⟨by rw [hgc']; exact Hsb.out, by omega⟩]
        have Hfin := hid hfin
        have HWr := hid (in_Write H2.out.1 (by omega) 0 x)
        clear hfin h2
        go_wp2_with fail
        refine HSe.out.mono ?_
        rintro e w' ⟨rfl, rfl⟩
        go_wp2_with fail
        refine HWr.out.mono ?_
        rintro e w3 ⟨rfl, hD3, hf3⟩
        have H3 := hid (And.intro hD3 hf3)
        clear hD3 hf3
        generalize d.write 0 x = r at HWr H3 Hfin ⊢
        obtain ⟨c, d3⟩ := r
        have HE3 : Hid (∀ k, k < w3.heap.size → ext S w2 w3 k → ext S w w3 k) := hid (fun k hk h => by
          have := H2.out.2.size
          rcases h with h | h
          · exact .inl h
          · exact .inr ⟨by omega, h.2⟩)
        by_cases hc : c = 0
        · subst hc
          go_wp2_with fail
          refine (in_Flush H3.out.1 (by omega)).mono ?_
          rintro e w4 ⟨rfl, hD4, hf4⟩
          have H4 := hid (And.intro hD4 hf4)
          clear hD4 hf4
          go_wp2_with fail
          go_ret
          rw [Hfin.out, if_pos True.intro]
          refine ⟨rfl, (H4.out.1.mono (fun k hk h => ?_)), (Frm.of_nul H2.out.2).trans (H3.out.2.ext H4.out.2)⟩
          have s2 := H2.out.2.size
          have s3 := H3.out.2.size
          have s4 := H4.out.2.size
          rcases h with h | h
          · exact .inl h
          · exact .inr ⟨by omega, by omega⟩
        · have g1 : (c == 0) = false := by simpa using hc
          have g2 : (c != 0) = true := by simpa using hc
          have Hc := hid hc
          clear hc
          go_wp2_with fail
          go_ret
          rw [Hfin.out, if_neg Hc.out]
          exact ⟨rfl, (H3.out.1.mono HE3.out).up (by omega), (Frm.of_nul H2.out.2).trans H3.out.2⟩
    · have hsb' : supB ((g : Int) + 1) a l = false := by simpa using hsb
      have hfin : d.swrite a l = (3, d) := by
        rw [Hsw.out, if_neg]
        rintro ⟨h1, _⟩
        rw [hgc] at h1
        exact hsb h1
      have HPu := hid (fun w => sup_Put_bad ((g : Int) + 1) a l w hsb')
      have Hfin := hid hfin
      clear hfin hsb hsb' Hsw hgc
      go_wp2_with fail
      refine HNw2.out.mono ?_
      rintro e w1 ⟨rfl, hf1⟩
      have H1 := hid (And.intro (H.out.nul hf1) hf1)
      have d0 : (w1.alloc (.cells #[.int .u64 (g : Int), .int .i64 (sa : Int), .int .i64 (sl : Int)] 53)).cell? ⟨w1.heap.size, 0, none⟩ = some (.int .u64 g) := (Blk.new w1 53 [.int .u64 (g : Int), .int .i64 (sa : Int), .int .i64 (sl : Int)]).cell 0
      clear hf1
      go_wp2_with fail
      refine (HPu.out _).mono ?_
      rintro e w2 ⟨rfl, hf2⟩
      have H2 := hid (And.intro ((H1.out.1.alloc' _).nul hf2) ((H1.out.2.alloc _).nul hf2))
      clear hf2
      go_wp2_with fail
      go_ret
      rw [Hfin.out]
      exact ⟨rfl, (H2.out.1.mono (fun k hk h => .inl h)).up (by omega), Frm.of_nul H2.out.2⟩
  · rw [if_neg (by simp)] at HNw
    rw [if_pos (by rfl)] at hto
    subst hto
    go_enter Try.func35, Try.ntmps35
    simp only [supV] at HNw
    have HNw2 := HNw
    clear HNw
    by_cases hsb : supB ((g : Int) + 1) a l = true
    · obtain ⟨_, _, a0, a1, l0, l1⟩ := supB_true hsb
      obtain ⟨A, rfl⟩ : ∃ A : Nat, a = (A : Int) := ⟨a.toNat, by omega⟩
      obtain ⟨L, rfl⟩ : ∃ L : Nat, l = (L : Int) := ⟨l.toNat, by omega⟩
      have hp := fun w => sup_Put_go (g + 1) A L w (by rw [hgc]; exact hsb) (by omega) (by omega) (by omega)
      rw [hgc] at hp
      have HPu := hid hp
      have hsw := Hsw.out
      rw [show ((A : Int)).toNat = A from by omega, show ((L : Int)).toNat = L from by omega] at hsw
      generalize hx : supS (g + 1) A L = x at HPu hsw
      have Hsb := hid hsb
      have Hsw2 := hid hsw
      clear hp hsw hsb hx Hsw hgc a0 a1 l0 l1
      go_wp2_with fail
      refine HNw2.out.mono ?_
      rintro e w1 ⟨rfl, hf1⟩
      have H1 := hid (And.intro (H.out.nul hf1) hf1)
      have d0 : (w1.alloc (.cells #[.int .u64 (g : Int), .int .i64 (sa : Int), .int .i64 (sl : Int)] 53)).cell? ⟨w1.heap.size, 0, none⟩ = some (.int .u64 g) := (Blk.new w1 53 [.int .u64 (g : Int), .int .i64 (sa : Int), .int .i64 (sl : Int)]).cell 0
      clear hf1
      go_wp2_with fail
      refine (HPu.out _).mono ?_
      rintro e w2 ⟨rfl, hf2⟩
      have H2 := hid (And.intro ((H1.out.1.alloc' _).nul hf2) ((H1.out.2.alloc _).nul hf2))
      clear hf2
      have HSe := hid (in_Sectors H2.out.1)
      generalize hnn : d.n = n at HSe Hsw2
      by_cases h2 : n < 2
      · have e2 : decide ((n : Int) < 2) = true := decide_eq_true (by omega)
        have hfin : d.swrite A L = (3, d) := by rw [Hsw2.out, if_neg (by omega)]
        have Hfin := hid hfin
        clear hfin h2
        go_wp2_with fail
        refine HSe.out.mono ?_
        rintro e w' ⟨rfl, rfl⟩
        go_wp2_with fail
        go_ret
        rw [Hfin.out]
        exact ⟨rfl, (H2.out.1.mono (fun k hk h => .inl h)).up (by omega), Frm.of_nul H2.out.2⟩
      · have e2 : decide ((n : Int) < 2) = false := decide_eq_false (by omega)
        have hfin : d.swrite A L = if (d.write 1 x).1 = 0 then (d.write 1 x).2.flush else d.write 1 x := by rw [Hsw2.out, if_pos ⟨by rw [hgc']; exact Hsb.out, by omega⟩]
        have Hfin := hid hfin
        have HWr := hid (in_Write H2.out.1 (by omega) 1 x)
        clear hfin h2
        go_wp2_with fail
        refine HSe.out.mono ?_
        rintro e w' ⟨rfl, rfl⟩
        go_wp2_with fail
        refine HWr.out.mono ?_
        rintro e w3 ⟨rfl, hD3, hf3⟩
        have H3 := hid (And.intro hD3 hf3)
        clear hD3 hf3
        generalize d.write 1 x = r at HWr H3 Hfin ⊢
        obtain ⟨c, d3⟩ := r
        have HE3 : Hid (∀ k, k < w3.heap.size → ext S w2 w3 k → ext S w w3 k) := hid (fun k hk h => by
          have := H2.out.2.size
          rcases h with h | h
          · exact .inl h
          · exact .inr ⟨by omega, h.2⟩)
        by_cases hc : c = 0
        · subst hc
          go_wp2_with fail
          refine (in_Flush H3.out.1 (by omega)).mono ?_
          rintro e w4 ⟨rfl, hD4, hf4⟩
          have H4 := hid (And.intro hD4 hf4)
          clear hD4 hf4
          go_wp2_with fail
          go_ret
          rw [Hfin.out, if_pos True.intro]
          refine ⟨rfl, (H4.out.1.mono (fun k hk h => ?_)), (Frm.of_nul H2.out.2).trans (H3.out.2.ext H4.out.2)⟩
          have s2 := H2.out.2.size
          have s3 := H3.out.2.size
          have s4 := H4.out.2.size
          rcases h with h | h
          · exact .inl h
          · exact .inr ⟨by omega, by omega⟩
        · have g1 : (c == 0) = false := by simpa using hc
          have g2 : (c != 0) = true := by simpa using hc
          have Hc := hid hc
          clear hc
          go_wp2_with fail
          go_ret
          rw [Hfin.out, if_neg Hc.out]
          exact ⟨rfl, (H3.out.1.mono HE3.out).up (by omega), (Frm.of_nul H2.out.2).trans H3.out.2⟩
    · have hsb' : supB ((g : Int) + 1) a l = false := by simpa using hsb
      have hfin : d.swrite a l = (3, d) := by
        rw [Hsw.out, if_neg]
        rintro ⟨h1, _⟩
        rw [hgc] at h1
        exact hsb h1
      have HPu := hid (fun w => sup_Put_bad ((g : Int) + 1) a l w hsb')
      have Hfin := hid hfin
      clear hfin hsb hsb' Hsw hgc
      go_wp2_with fail
      refine HNw2.out.mono ?_
      rintro e w1 ⟨rfl, hf1⟩
      have H1 := hid (And.intro (H.out.nul hf1) hf1)
      have d0 : (w1.alloc (.cells #[.int .u64 (g : Int), .int .i64 (sa : Int), .int .i64 (sl : Int)] 53)).cell? ⟨w1.heap.size, 0, none⟩ = some (.int .u64 g) := (Blk.new w1 53 [.int .u64 (g : Int), .int .i64 (sa : Int), .int .i64 (sl : Int)]).cell 0
      clear hf1
      go_wp2_with fail
      refine (HPu.out _).mono ?_
      rintro e w2 ⟨rfl, hf2⟩
      have H2 := hid (And.intro ((H1.out.1.alloc' _).nul hf2) ((H1.out.2.alloc _).nul hf2))
      clear hf2
      go_wp2_with fail
      go_ret
      rw [Hfin.out]
      exact ⟨rfl, (H2.out.1.mono (fun k hk h => .inl h)).up (by omega), Frm.of_nul H2.out.2⟩
  · rw [if_neg (by simp)] at HNw
    rw [if_neg (by simp)] at hto
    subst hto
    go_enter Try.func35, Try.ntmps35
    simp only [supV] at HNw
    have HNw2 := HNw
    clear HNw
    by_cases hsb : supB ((g : Int) + 1) a l = true
    · obtain ⟨_, _, a0, a1, l0, l1⟩ := supB_true hsb
      obtain ⟨A, rfl⟩ : ∃ A : Nat, a = (A : Int) := ⟨a.toNat, by omega⟩
      obtain ⟨L, rfl⟩ : ∃ L : Nat, l = (L : Int) := ⟨l.toNat, by omega⟩
      have hp := fun w => sup_Put_go (g + 1) A L w (by rw [hgc]; exact hsb) (by omega) (by omega) (by omega)
      rw [hgc] at hp
      have HPu := hid hp
      have hsw := Hsw.out
      rw [show ((A : Int)).toNat = A from by omega, show ((L : Int)).toNat = L from by omega] at hsw
      generalize hx : supS (g + 1) A L = x at HPu hsw
      have Hsb := hid hsb
      have Hsw2 := hid hsw
      clear hp hsw hsb hx Hsw hgc a0 a1 l0 l1
      go_wp2_with fail
      refine HNw2.out.mono ?_
      rintro e w1 ⟨rfl, hf1⟩
      have H1 := hid (And.intro (H.out.nul hf1) hf1)
      have d0 : (w1.alloc (.cells #[.int .u64 (g : Int), .int .i64 (sa : Int), .int .i64 (sl : Int)] 53)).cell? ⟨w1.heap.size, 0, none⟩ = some (.int .u64 g) := (Blk.new w1 53 [.int .u64 (g : Int), .int .i64 (sa : Int), .int .i64 (sl : Int)]).cell 0
      clear hf1
      go_wp2_with fail
      refine (HPu.out _).mono ?_
      rintro e w2 ⟨rfl, hf2⟩
      have H2 := hid (And.intro ((H1.out.1.alloc' _).nul hf2) ((H1.out.2.alloc _).nul hf2))
      clear hf2
      have HSe := hid (in_Sectors H2.out.1)
      generalize hnn : d.n = n at HSe Hsw2
      by_cases h2 : n < 2
      · have e2 : decide ((n : Int) < 2) = true := decide_eq_true (by omega)
        have hfin : d.swrite A L = (3, d) := by rw [Hsw2.out, if_neg (by omega)]
        have Hfin := hid hfin
        clear hfin h2
        go_wp2_with fail
        refine HSe.out.mono ?_
        rintro e w' ⟨rfl, rfl⟩
        go_wp2_with fail
        go_ret
        rw [Hfin.out]
        exact ⟨rfl, (H2.out.1.mono (fun k hk h => .inl h)).up (by omega), Frm.of_nul H2.out.2⟩
      · have e2 : decide ((n : Int) < 2) = false := decide_eq_false (by omega)
        have hfin : d.swrite A L = if (d.write 0 x).1 = 0 then (d.write 0 x).2.flush else d.write 0 x := by rw [Hsw2.out, if_pos ⟨by rw [hgc']; exact Hsb.out, by omega⟩]
        have Hfin := hid hfin
        have HWr := hid (in_Write H2.out.1 (by omega) 0 x)
        clear hfin h2
        go_wp2_with fail
        refine HSe.out.mono ?_
        rintro e w' ⟨rfl, rfl⟩
        go_wp2_with fail
        refine HWr.out.mono ?_
        rintro e w3 ⟨rfl, hD3, hf3⟩
        have H3 := hid (And.intro hD3 hf3)
        clear hD3 hf3
        generalize d.write 0 x = r at HWr H3 Hfin ⊢
        obtain ⟨c, d3⟩ := r
        have HE3 : Hid (∀ k, k < w3.heap.size → ext S w2 w3 k → ext S w w3 k) := hid (fun k hk h => by
          have := H2.out.2.size
          rcases h with h | h
          · exact .inl h
          · exact .inr ⟨by omega, h.2⟩)
        by_cases hc : c = 0
        · subst hc
          go_wp2_with fail
          refine (in_Flush H3.out.1 (by omega)).mono ?_
          rintro e w4 ⟨rfl, hD4, hf4⟩
          have H4 := hid (And.intro hD4 hf4)
          clear hD4 hf4
          go_wp2_with fail
          go_ret
          rw [Hfin.out, if_pos True.intro]
          refine ⟨rfl, (H4.out.1.mono (fun k hk h => ?_)), (Frm.of_nul H2.out.2).trans (H3.out.2.ext H4.out.2)⟩
          have s2 := H2.out.2.size
          have s3 := H3.out.2.size
          have s4 := H4.out.2.size
          rcases h with h | h
          · exact .inl h
          · exact .inr ⟨by omega, by omega⟩
        · have g1 : (c == 0) = false := by simpa using hc
          have g2 : (c != 0) = true := by simpa using hc
          have Hc := hid hc
          clear hc
          go_wp2_with fail
          go_ret
          rw [Hfin.out, if_neg Hc.out]
          exact ⟨rfl, (H3.out.1.mono HE3.out).up (by omega), (Frm.of_nul H2.out.2).trans H3.out.2⟩
    · have hsb' : supB ((g : Int) + 1) a l = false := by simpa using hsb
      have hfin : d.swrite a l = (3, d) := by
        rw [Hsw.out, if_neg]
        rintro ⟨h1, _⟩
        rw [hgc] at h1
        exact hsb h1
      have HPu := hid (fun w => sup_Put_bad ((g : Int) + 1) a l w hsb')
      have Hfin := hid hfin
      clear hfin hsb hsb' Hsw hgc
      go_wp2_with fail
      refine HNw2.out.mono ?_
      rintro e w1 ⟨rfl, hf1⟩
      have H1 := hid (And.intro (H.out.nul hf1) hf1)
      have d0 : (w1.alloc (.cells #[.int .u64 (g : Int), .int .i64 (sa : Int), .int .i64 (sl : Int)] 53)).cell? ⟨w1.heap.size, 0, none⟩ = some (.int .u64 g) := (Blk.new w1 53 [.int .u64 (g : Int), .int .i64 (sa : Int), .int .i64 (sl : Int)]).cell 0
      clear hf1
      go_wp2_with fail
      refine (HPu.out _).mono ?_
      rintro e w2 ⟨rfl, hf2⟩
      have H2 := hid (And.intro ((H1.out.1.alloc' _).nul hf2) ((H1.out.2.alloc _).nul hf2))
      clear hf2
      go_wp2_with fail
      go_ret
      rw [Hfin.out]
      exact ⟨rfl, (H2.out.1.mono (fun k hk h => .inl h)).up (by omega), Frm.of_nul H2.out.2⟩
end
end Go.Proofs.Ytdpffgcekjdneaa
