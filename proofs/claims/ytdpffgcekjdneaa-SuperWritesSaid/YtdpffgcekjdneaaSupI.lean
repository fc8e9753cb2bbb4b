/-
  Walks: the document's writing of a super.
-/
import Derived.Test.YtdpffgcekjdneaaSupH
set_option linter.all false
namespace Go.Proofs.Ytdpffgcekjdneaa
open Go.RowKit

section
variable {T : Nat → Prop} {B b1 b2 N : Nat} {w : World} {d1 d2 : Dk}
theorem bd_SWrite (h : Both T B w b1 b2 N d1 d2) (hT : ∀ k, w.heap.size ≤ k → T k) (hB : B ≤ w.heap.size) (hN : N + 2 ≤ 99999) (a l : Int) :
    Calls Try.prog 35 #[.pointer (some ⟨b1, 0, none⟩), .int .i64 a, .int .i64 l] w fun e w' =>
      e = .returned (.int .i64 (d1.swrite a l).1) ∧ Both T B w' b1 b2 (N + 2) (d1.swrite a l).2 d2 ∧ Frm T w w' := by
  obtain ⟨S, h1, hl⟩ := h.lift hT hB
  refine (sup_Write h1 hN a l).mono ?_
  rintro e w' ⟨rfl, hD, hf⟩
  exact ⟨rfl, hl w' _ _ (by omega) hD hf⟩
theorem bd_SNewest (h : Both T B w b1 b2 N d1 d2) (hN : N ≤ 99999) :
    Calls Try.prog 36 #[.pointer (some ⟨b1, 0, none⟩)] w fun e w' => e = .returned (.tuple #[supV (newR d1).1, .int .i64 (newR d1).2.1, .int .i64 (newR d1).2.2]) ∧ Nul w w' := by
  obtain ⟨S, h1⟩ := h.one
  exact sup_Newest h1 (by omega)

set_option maxRecDepth 100000 in
set_option maxHeartbeats 2000000 in
theorem br_SWrite (h : Both T B w b1 b2 N d1 d2) (hT : ∀ k, w.heap.size ≤ k → T k) (hB : B ≤ w.heap.size) (hN : N + 2 ≤ 99999) (hn1 : 1 ≤ d2.n) (hd : d2.down = false) (a l : Int) :
    Calls Try.prog 37 #[.pointer (some ⟨b2, 0, none⟩), .int .i64 a, .int .i64 l] w fun e w' =>
      e = .returned (.int .i64 (d2.swrite a l).1) ∧ Both T B w' b1 b2 (N + 2) d1 (d2.swrite a l).2 ∧ Frm T w w' := by
  have HNw := hid (br_SNewest h (by omega) hn1 hd)
  have hsw : d2.swrite a l = if supB ((newest d2).1.g + 1 : Nat) a l = true ∧ 2 ≤ d2.n then
      if (d2.write d2.to (supS ((newest d2).1.g + 1) a.toNat l.toNat)).1 = 0 then (d2.write d2.to (supS ((newest d2).1.g + 1) a.toNat l.toNat)).2.flush
      else d2.write d2.to (supS ((newest d2).1.g + 1) a.toNat l.toNat)
    else (3, d2) := by unfold Dk.swrite; rw [hd, if_neg (by decide)]
  have hto : d2.to = if (newest d2).2 = 0 then 1 else 0 := rfl
  have hgb := newest_g d2
  obtain ⟨to, hto1⟩ : ∃ to, d2.to = to := ⟨_, rfl⟩
  rw [hto1] at hsw hto
  generalize newest d2 = st at HNw hsw hto hgb
  obtain ⟨⟨g, sa, sl⟩, at_⟩ := st
  simp only at hsw hto hgb
  simp only [supV] at HNw
  have Hsw := hid hsw
  have H := hid h
  have HcL : Hid (∀ w', Nul w w' → ∃ AL cL, w'.cell? ⟨b2, 0, none⟩ = some (.slice AL d2.n cL)) := hid (fun w' hf => by
    obtain ⟨S, F, h1, ⟨vL, vW, A, c, hV⟩, _⟩ := h.nul hf
    obtain ⟨AL, cL, rfl⟩ := own_shape hV.2.2.1
    exact ⟨AL, cL, hV.2.1.cell 0⟩)
  have HTT := hid (And.intro hT hB)
  have hu1 : IntKind.u64.wrap ((g : Int) + 1) = (g : Int) + 1 := IntWalk.u64_in _ (by omega)
  have hgc : ((g + 1 : Nat) : Int) = (g : Int) + 1 := by omega
  have Hgc := hid hgc
  have Hgb := hid hgb
  have Hto := hid hto
  have HMy := hid (fun w => ref_May ((g : Int) + 1) a l w)
  clear h hd hto1 hsw hgb hto hT hB hn1
  have hnn : d2.n ≤ 65536 := H.out.sz.2.1.1
  obtain ⟨n, hn⟩ : ∃ n, d2.n = n := ⟨_, rfl⟩
  rw [hn] at HcL Hsw hnn
  clear hn
  by_cases h2 : n < 2
  · have e2 : decide ((n : Int) < 2) = true := decide_eq_true (by omega)
    have Hfin : Hid (d2.swrite a l = (3, d2)) := hid (by rw [Hsw.out, if_neg (by omega)])
    clear h2 hgc
    go_enter Try.func37, Try.ntmps37
    go_wp2_with fail
    refine HNw.out.mono ?_
    rintro e w1 ⟨rfl, hf1⟩
    have HI : Hid (Nul w ((w1.alloc (.cells #[.int .u64 (g : Int), .int .i64 (sa : Int), .int .i64 (sl : Int)] 53)).alloc (.cells #[.int .u64 ((g : Int) + 1), .int .i64 a, .int .i64 l] 53))) := hid ((hf1.alloc _).alloc _)
    obtain ⟨AL, cL, q0⟩ := HcL.out w1 hf1
    have q1 : b2 < w1.heap.size := World.block_lt_of_cell? w1 _ q0
    clear hf1
    go_wp2_with fail
    go_ret
    rw [Hfin.out]
    exact ⟨rfl, (H.out.nul HI.out).up (by omega), Frm.of_nul HI.out⟩
  have e2 : decide ((n : Int) < 2) = false := decide_eq_false (by omega)
  cases hsb : supB ((g : Int) + 1) a l with
  | false =>
    rw [hsb] at HMy
    have Hfin : Hid (d2.swrite a l = (3, d2)) := hid (by
      rw [Hsw.out, if_neg]
      rintro ⟨h1, _⟩
      rw [hgc, hsb] at h1
      cases h1)
    clear h2 hgc hsb
    go_enter Try.func37, Try.ntmps37
    go_wp2_with fail
    refine HNw.out.mono ?_
    rintro e w1 ⟨rfl, hf1⟩
    have HI : Hid (Nul w ((w1.alloc (.cells #[.int .u64 (g : Int), .int .i64 (sa : Int), .int .i64 (sl : Int)] 53)).alloc (.cells #[.int .u64 ((g : Int) + 1), .int .i64 a, .int .i64 l] 53))) := hid ((hf1.alloc _).alloc _)
    obtain ⟨AL, cL, q0⟩ := HcL.out w1 hf1
    have q1 : b2 < w1.heap.size := World.block_lt_of_cell? w1 _ q0
    clear hf1
    go_wp2_with fail
    refine (HMy.out _).mono ?_
    rintro e w2 ⟨rfl, hf2⟩
    have HI2 := hid (HI.out.nul hf2)
    clear hf2
    go_wp2_with fail
    go_ret
    rw [Hfin.out]
    exact ⟨rfl, (H.out.nul HI2.out).up (by omega), Frm.of_nul HI2.out⟩
  | true =>
    rw [hsb] at HMy
    obtain ⟨_, _, a0, a1, l0, l1⟩ := supB_true hsb
    obtain ⟨A, rfl⟩ : ∃ A : Nat, a = (A : Int) := ⟨a.toNat, by omega⟩
    obtain ⟨L, rfl⟩ : ∃ L : Nat, l = (L : Int) := ⟨l.toNat, by omega⟩
    have hp := fun w => ref_SPut (g + 1) A L w (by have := Hgb.out; omega) (by omega) (by omega)
    rw [hgc] at hp
    have HPu := hid hp
    have hsw := Hsw.out
    rw [show ((A : Int)).toNat = A from by omega, show ((L : Int)).toNat = L from by omega] at hsw
    generalize hx : supS (g + 1) A L = x at HPu hsw
    have Hfin : Hid (d2.swrite A L = if (d2.write to x).1 = 0 then (d2.write to x).2.flush else d2.write to x) := hid (by rw [hsw, if_pos ⟨by rw [hgc]; exact hsb, by omega⟩])
    clear hp hsw hsb hx Hsw hgc a0 a1 l0 l1 h2
    by_cases hat : at_ = 0
    all_goals
      have hto := Hto.out
      first
        | (rw [if_pos hat] at hto; subst hto hat)
        | (rw [if_neg hat] at hto; subst hto; have g3 : (at_ == 0) = false := by simpa using hat)
      try clear hat
      go_enter Try.func37, Try.ntmps37
      go_wp2_with fail
      refine HNw.out.mono ?_
      rintro e w1 ⟨rfl, hf1⟩
      have HI : Hid (Nul w ((w1.alloc (.cells #[.int .u64 (g : Int), .int .i64 (sa : Int), .int .i64 (sl : Int)] 53)).alloc (.cells #[.int .u64 ((g : Int) + 1), .int .i64 (A : Int), .int .i64 (L : Int)] 53))) := hid ((hf1.alloc _).alloc _)
      have HBk : Hid (Blk ((w1.alloc (.cells #[.int .u64 (g : Int), .int .i64 (sa : Int), .int .i64 (sl : Int)] 53)).alloc (.cells #[.int .u64 ((g : Int) + 1), .int .i64 (A : Int), .int .i64 (L : Int)] 53)) (w1.heap.size + 1) 53 [.int .u64 ((g : Int) + 1), .int .i64 (A : Int), .int .i64 (L : Int)]) := hid (Blk.new_at (w1.alloc (.cells #[.int .u64 (g : Int), .int .i64 (sa : Int), .int .i64 (sl : Int)] 53)) 53 [.int .u64 ((g : Int) + 1), .int .i64 (A : Int), .int .i64 (L : Int)] (by simp))
      obtain ⟨AL, cL, q0⟩ := HcL.out w1 hf1
      have q1 : b2 < w1.heap.size := World.block_lt_of_cell? w1 _ q0
      clear hf1
      go_wp2_with fail
      refine (HMy.out _).mono ?_
      rintro e w2 ⟨rfl, hf2⟩
      have HI2 := hid (HI.out.nul hf2)
      have hBk2 := HBk.out.nul hf2
      have p0 : w2.cell? ⟨w1.heap.size + 1, 0, none⟩ = some (.int .u64 ((g : Int) + 1)) := hBk2.cell 0
      have p1 : w2.cell? ⟨w1.heap.size + 1, 1, none⟩ = some (.int .i64 (A : Int)) := hBk2.cell 1
      have p2 : w2.cell? ⟨w1.heap.size + 1, 2, none⟩ = some (.int .i64 (L : Int)) := hBk2.cell 2
      clear hf2 hBk2
      go_wp2_with fail
      refine (HPu.out _).mono ?_
      rintro e w3 ⟨rfl, hf3⟩
      have HI3 := hid (HI2.out.nul hf3)
      clear hf3
      have HT3 := hid (H.out.nul HI3.out)
      go_wp2_with fail
      refine (br_Write HT3.out (fun k hk => HTT.out.1 k (Nat.le_trans HI3.out.size hk)) (Nat.le_trans HTT.out.2 HI3.out.size) (by omega) _ x).mono ?_
      rintro e w4 ⟨rfl, hb4, hf4⟩
      have H4 := hid (And.intro hb4 hf4)
      clear hb4 hf4
      generalize d2.write _ x = r at H4 Hfin ⊢
      obtain ⟨c, d3⟩ := r
      by_cases hc : c = 0
      · subst hc
        go_wp2_with fail
        refine (br_Flush H4.out.1 (by omega)).mono ?_
        rintro e w5 ⟨rfl, hb5, hf5⟩
        have H5 := hid (And.intro hb5 hf5)
        clear hb5 hf5
        go_wp2_with fail
        go_ret
        rw [Hfin.out, if_pos True.intro]
        exact ⟨rfl, H5.out.1, ((Frm.of_nul HI3.out).trans H4.out.2).trans H5.out.2⟩
      · have g1 : (c == 0) = false := by simpa using hc
        have g2 : (c != 0) = true := by simpa using hc
        have Hc := hid hc
        clear hc
        go_wp2_with fail
        go_ret
        rw [Hfin.out, if_neg Hc.out]
        exact ⟨rfl, H4.out.1.up (by omega), (Frm.of_nul HI3.out).trans H4.out.2⟩
end
end Go.Proofs.Ytdpffgcekjdneaa
