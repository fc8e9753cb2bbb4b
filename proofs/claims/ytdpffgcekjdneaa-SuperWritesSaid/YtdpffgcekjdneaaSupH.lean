/-
  Walks: a disk that is down, or none; the document's newest super.
-/
import Derived.Test.YtdpffgcekjdneaaSupG
import Derived.Test.YtdpffgcekjdneaaAreaE
set_option linter.all false
namespace Go.Proofs.Ytdpffgcekjdneaa
open Go.RowKit

section
variable {S : Nat → Prop} {w : World} {b N : Nat} {d : Dk}
set_option maxRecDepth 100000 in
set_option maxHeartbeats 1000000 in
theorem sup_Write_down (h : DiskIn S w b N d) (hN : N + 2 ≤ 99999) (hd : d.down = true) (a l : Int) :
    Calls Try.prog 35 #[.pointer (some ⟨b, 0, none⟩), .int .i64 a, .int .i64 l] w fun e w' =>
      e = .returned (.int .i64 (d.swrite a l).1) ∧ DiskIn (ext S w w') w' b (N + 2) (d.swrite a l).2 ∧ Frm S w w' := by
  have HNw := hid (sup_Newest h (by omega))
  have hnr : newR d = (Sup.zero, 0, 12) := by unfold newR; rw [hd, if_pos rfl]
  have hsw : d.swrite a l = (12, d) := by unfold Dk.swrite; rw [hd, if_pos rfl]
  rw [hnr] at HNw
  simp only [supV, Sup.zero] at HNw
  have Hsw := hid hsw
  have H := hid h
  clear h hd hnr hsw
  go_enter Try.func35, Try.ntmps35
  go_wp2_with fail
  refine HNw.out.mono ?_
  rintro e w1 ⟨rfl, hf1⟩
  have H1 := hid (And.intro (H.out.nul hf1) hf1)
  clear hf1
  go_wp2_with fail
  go_ret
  rw [Hsw.out]
  exact ⟨rfl, ((H1.out.1.alloc' _).mono (fun k hk h => .inl h)).up (by omega), Frm.of_nul (H1.out.2.alloc _)⟩
theorem sup_Write (h : DiskIn S w b N d) (hN : N + 2 ≤ 99999) (a l : Int) :
    Calls Try.prog 35 #[.pointer (some ⟨b, 0, none⟩), .int .i64 a, .int .i64 l] w fun e w' =>
      e = .returned (.int .i64 (d.swrite a l).1) ∧ DiskIn (ext S w w') w' b (N + 2) (d.swrite a l).2 ∧ Frm S w w' := by
  cases hd : d.down with
  | true => exact sup_Write_down h hN hd a l
  | false => exact sup_Write_up h hN hd a l
end

set_option maxRecDepth 100000 in
set_option maxHeartbeats 1000000 in
theorem sup_Newest_nil (w : World) :
    Calls Try.prog 36 #[.pointer none] w fun e w' => e = .returned (.tuple #[.agg #[.int .u64 0, .int .i64 0, .int .i64 0], .int .i64 0, .int .i64 1]) ∧ Nul w w' := by
  go_enter Try.func36, Try.ntmps36
  go_wp2_with fail
  go_loopg [6, 7, 8, 9, 10, 11, 12] 0 (fun m at_ _ _ _ _ _ r wr => m = 0 ∧ r = .int .i64 0 ∧ Blk wr w.heap.size 53 [.int .u64 0, .int .i64 0, .int .i64 0] ∧ Nul w wr)
  case atStart => exact ⟨rfl, rfl, (Blk.new w 53 [.int .u64 0, .int .i64 0, .int .i64 0]).alloc _, ((Frm.refl _ w).alloc _).alloc _⟩
  case round =>
    obtain ⟨rfl, rfl, hR, hf⟩ := hrel
    have HI1 := hid (And.intro hR hf)
    clear hR hf
    go_wp2_with fail
    refine (disk_Read_nil _ _).mono ?_
    rintro r w1 ⟨rfl, rfl⟩
    have c0 : wr.cell? ⟨w.heap.size, 0, none⟩ = some (.int .u64 0) := HI1.out.1.cell 0
    have c1 : wr.cell? ⟨w.heap.size, 1, none⟩ = some (.int .i64 0) := HI1.out.1.cell 1
    have c2 : wr.cell? ⟨w.heap.size, 2, none⟩ = some (.int .i64 0) := HI1.out.1.cell 2
    have f0 : wr.frozen? ⟨w.heap.size, 0, none⟩ = false := HI1.out.1.frozen 0
    have f1 : wr.frozen? ⟨w.heap.size, 1, none⟩ = false := HI1.out.1.frozen 1
    have f2 : wr.frozen? ⟨w.heap.size, 2, none⟩ = false := HI1.out.1.frozen 2
    go_wp2_with fail
    exact bodyPost_ret (v := .tuple #[.agg #[.int .u64 0, .int .i64 0, .int .i64 0], .int .i64 0, .int .i64 1]) (by simp [results, Try.results36, go_sem, c0, c1, c2]) rfl ⟨rfl, ((Frm.setCell (p := ⟨w.heap.size, 0, none⟩) HI1.out.2 (.inl (Nat.le_refl _)) _).setCell (p := ⟨w.heap.size, 1, none⟩) (.inl (Nat.le_refl _)) _).setCell (p := ⟨w.heap.size, 2, none⟩) (.inl (Nat.le_refl _)) _⟩

set_option maxRecDepth 100000 in
set_option maxHeartbeats 1000000 in
theorem sup_Write_nil (a l : Int) (w : World) :
    Calls Try.prog 35 #[.pointer none, .int .i64 a, .int .i64 l] w fun e w' => e = .returned (.int .i64 1) ∧ Nul w w' := by
  go_enter Try.func35, Try.ntmps35
  go_wp2_with fail
  refine (sup_Newest_nil _).mono ?_
  rintro e w1 ⟨rfl, hf1⟩
  go_wp2_with fail
  go_ret
  exact ⟨rfl, hf1.alloc _⟩

theorem newest_small {d : Dk} (h : d.n = 1) : newest d = nst d 1 := by
  show nstep (nst d 1) 1 (d.read 1).1 = nst d 1
  have hr : (d.read 1).1 = ByteArray.empty := by
    unfold Dk.read
    split
    · rfl
    · rw [if_pos (by omega)]
  unfold nstep
  rw [hr, supR_size (by decide), if_neg (by decide)]

section
variable {T : Nat → Prop} {B b1 b2 N : Nat} {w : World} {d1 d2 : Dk}
set_option maxRecDepth 100000 in
set_option maxHeartbeats 2000000 in
theorem br_SNewest (h : Both T B w b1 b2 N d1 d2) (hN : N ≤ 99999) (hn1 : 1 ≤ d2.n) (hd : d2.down = false) :
    Calls Try.prog 38 #[.pointer (some ⟨b2, 0, none⟩)] w fun e w' => e = .returned (.tuple #[supV (newest d2).1, .int .i64 (newest d2).2]) ∧ Nul w w' := by
  have H := hid h
  have HcL : Hid (∀ w', Nul w w' → ∃ AL cL, w'.cell? ⟨b2, 0, none⟩ = some (.slice AL d2.n cL)) := hid (fun w' hf => by
    obtain ⟨S, F, h1, ⟨vL, vW, A, c, hV⟩, _⟩ := h.nul hf
    obtain ⟨AL, cL, rfl⟩ := own_shape hV.2.2.1
    exact ⟨AL, cL, hV.2.1.cell 0⟩)
  have hnn : d2.n ≤ 65536 := h.sz.2.1.1
  obtain ⟨n, hn⟩ : ∃ n, d2.n = n := ⟨_, rfl⟩
  rw [hn] at HcL hn1 hnn
  obtain ⟨q, hq⟩ : ∃ q, min 2 n = q := ⟨_, rfl⟩
  have hq2 : newest d2 = nst d2 q := by
    by_cases h1 : n = 1
    · rw [newest_small (hn.trans h1), show q = 1 from by omega]
    · rw [show q = 2 from by omega]; rfl
  rw [hq2]
  have Hq := hid hq
  clear h hn hq hq2
  go_enter Try.func38, Try.ntmps38
  go_wp2_with fail
  go_loopg [5, 6, 7, 8, 9, 10] q (fun m at_ r _ _ _ _ wr => ∃ k : Nat, k + m = q ∧ r = .int .i64 k ∧ at_ = .int .i64 (nst d2 k).2 ∧ Blk wr w.heap.size 53 [.int .u64 0, .int .i64 0, .int .i64 0] ∧ Blk wr (w.heap.size + 1) 53 [.int .u64 (nst d2 k).1.g, .int .i64 (nst d2 k).1.a, .int .i64 (nst d2 k).1.l] ∧ Nul w wr)
  case atStart => exact ⟨0, by omega, rfl, rfl, (Blk.new w 53 [.int .u64 0, .int .i64 0, .int .i64 0]).alloc _, Blk.new_at (w.alloc (.cells #[.int .u64 0, .int .i64 0, .int .i64 0] 53)) 53 [.int .u64 0, .int .i64 0, .int .i64 0] (by simp), ((Frm.refl _ w).alloc _).alloc _⟩
  case round =>
    obtain ⟨k, hk, rfl, rfl, hR, hB, hf⟩ := hrel
    have Hk := hid hk
    have HI := hid (And.intro hR (And.intro hB hf))
    have hk2 : k ≤ 2 := by have := Hq.out; omega
    have Hst : Hid (∃ st, nst d2 k = st ∧ nst d2 (k + 1) = nstep st k (d2.read k).1) := hid ⟨_, rfl, rfl⟩
    clear hk hR hB hf
    obtain ⟨st, hst, hst1⟩ := Hst.out
    rw [hst] at HI ⊢
    obtain ⟨⟨bg, ba, bl⟩, at_⟩ := st
    have Hst1 := hid hst1
    have Hst0 := hid hst
    clear hst hst1 Hst
    obtain ⟨AL, cL, hcL⟩ := HcL.out wr HI.out.2.2
    by_cases hlt : k < q
    · have e1 : decide ((k : Int) < 2) = true := decide_eq_true (by have := Hq.out; omega)
      have hkn : k < n := by have := Hq.out; omega
      have e1' : decide ((k : Int) < (n : Int)) = true := decide_eq_true (by omega)
      have HRd := hid (br_Read (H.out.nul HI.out.2.2) hN k)
      have htz : (d2.read k).1.size ≤ 140737488351232 := Nat.le_trans (read_size_le H.out.sz.2.1 k) (by omega)
      generalize d2.read k = rd at HRd htz Hst1
      obtain ⟨t, e⟩ := rd
      have HG := hid (fun w => ref_SGet t w htz)
      have h2 := hid (supR_two t)
      unfold nstep at Hst1
      generalize supR t = x at HG h2 Hst1
      obtain ⟨⟨sg, sa, sl⟩, e2⟩ := x
      simp only [supV] at HG
      clear htz
      go_wp2_with fail
      refine HRd.out.mono ?_
      rintro r w1 ⟨rfl, rfl⟩
      go_wp2_with fail
      by_cases he2 : e2 = 0
      · rw [decide_eq_true he2] at HG
        subst he2
        refine (HG.out _).mono ?_
        rintro r w2 ⟨rfl, hf2⟩
        have HI2 := hid (And.intro (HI.out.1.nul hf2) (And.intro (HI.out.2.1.nul hf2) (HI.out.2.2.nul hf2)))
        have d0 : w2.cell? ⟨w.heap.size + 1, 0, none⟩ = some (.int .u64 bg) := HI2.out.2.1.cell 0
        have d1 : w2.cell? ⟨w.heap.size + 1, 1, none⟩ = some (.int .i64 ba) := HI2.out.2.1.cell 1
        have d2' : w2.cell? ⟨w.heap.size + 1, 2, none⟩ = some (.int .i64 bl) := HI2.out.2.1.cell 2
        have z0 : w2.frozen? ⟨w.heap.size + 1, 0, none⟩ = false := HI2.out.2.1.frozen 0
        have z1 : w2.frozen? ⟨w.heap.size + 1, 1, none⟩ = false := HI2.out.2.1.frozen 1
        have z2 : w2.frozen? ⟨w.heap.size + 1, 2, none⟩ = false := HI2.out.2.1.frozen 2
        have zl : w.heap.size + 1 < w2.heap.size := HI2.out.2.1.lt
        clear hf2
        by_cases hat : at_ < 0
        · have e3 : decide (at_ < 0) = true := decide_eq_true hat
          go_wp2_with fail
          have hn : nst d2 (k + 1) = (⟨sg, sa, sl⟩, (k : Int)) := by rw [Hst1.out, if_pos True.intro, if_pos (.inl hat)]
          go_roundg (gk - 1)
          case rel =>
            refine ⟨k + 1, by have := Hk.out; omega, by go_num, by rw [hn], ?_, ?_, ?_⟩
            · exact (((HI2.out.1.far (by simp) _).far (by simp) _).far (by simp) _).alloc _
            · rw [hn]
              exact (((HI2.out.2.1.put 0 (.int .u64 sg)).put 1 (.int .i64 sa)).put 2 (.int .i64 sl)).alloc _
            · exact (((HI2.out.2.2.setCell (p := ⟨w.heap.size + 1, 0, none⟩) (.inl (by simp)) _).setCell (p := ⟨w.heap.size + 1, 1, none⟩) (.inl (by simp)) _).setCell (p := ⟨w.heap.size + 1, 2, none⟩) (.inl (by simp)) _).alloc _
          case measure => have := Hk.out; omega
        · have e3 : decide (at_ < 0) = false := decide_eq_false hat
          by_cases hg : bg < sg
          · have e4 : decide (bg < sg) = true := decide_eq_true hg
            go_wp2_with fail
            have hn : nst d2 (k + 1) = (⟨sg, sa, sl⟩, (k : Int)) := by rw [Hst1.out, if_pos True.intro, if_pos (.inr hg)]
            go_roundg (gk - 1)
            case rel =>
              refine ⟨k + 1, by have := Hk.out; omega, by go_num, by rw [hn], ?_, ?_, ?_⟩
              · exact (((HI2.out.1.far (by simp) _).far (by simp) _).far (by simp) _).alloc _
              · rw [hn]
                exact (((HI2.out.2.1.put 0 (.int .u64 sg)).put 1 (.int .i64 sa)).put 2 (.int .i64 sl)).alloc _
              · exact (((HI2.out.2.2.setCell (p := ⟨w.heap.size + 1, 0, none⟩) (.inl (by simp)) _).setCell (p := ⟨w.heap.size + 1, 1, none⟩) (.inl (by simp)) _).setCell (p := ⟨w.heap.size + 1, 2, none⟩) (.inl (by simp)) _).alloc _
            case measure => have := Hk.out; omega
          · have e4 : decide (bg < sg) = false := decide_eq_false hg
            have Hng : Hid (¬ (at_ < 0 ∨ bg < sg)) := hid (by omega)
            go_wp2_with fail
            have hn : nst d2 (k + 1) = (⟨bg, ba, bl⟩, at_) := by rw [Hst1.out, if_pos True.intro, if_neg Hng.out]
            go_roundg (gk - 1)
            case rel =>
              refine ⟨k + 1, by have := Hk.out; omega, by go_num, by rw [hn], HI2.out.1.alloc _, ?_, HI2.out.2.2.alloc _⟩
              rw [hn]
              exact HI2.out.2.1.alloc _
            case measure => have := Hk.out; omega
      · rw [decide_eq_false he2] at HG
        have He2 := hid he2
        clear he2
        refine (HG.out _).mono ?_
        rintro r w2 ⟨rfl, hf2⟩
        have HI2 := hid (And.intro (HI.out.1.nul hf2) (And.intro (HI.out.2.1.nul hf2) (HI.out.2.2.nul hf2)))
        clear hf2
        go_wp2_with fail
        have hn : nst d2 (k + 1) = (⟨bg, ba, bl⟩, at_) := by rw [Hst1.out, if_neg He2.out]
        go_roundg (gk - 1)
        case rel =>
          refine ⟨k + 1, by have := Hk.out; omega, by go_num, by rw [hn], HI2.out.1.alloc _, ?_, HI2.out.2.2.alloc _⟩
          rw [hn]
          exact HI2.out.2.1.alloc _
        case measure => have := Hk.out; omega
    · obtain rfl : k = q := by have := Hk.out; omega
      have c0 : wr.cell? ⟨w.heap.size, 0, none⟩ = some (.int .u64 0) := HI.out.1.cell 0
      have c1 : wr.cell? ⟨w.heap.size, 1, none⟩ = some (.int .i64 0) := HI.out.1.cell 1
      have c2 : wr.cell? ⟨w.heap.size, 2, none⟩ = some (.int .i64 0) := HI.out.1.cell 2
      have f0 : wr.frozen? ⟨w.heap.size, 0, none⟩ = false := HI.out.1.frozen 0
      have f1 : wr.frozen? ⟨w.heap.size, 1, none⟩ = false := HI.out.1.frozen 1
      have f2 : wr.frozen? ⟨w.heap.size, 2, none⟩ = false := HI.out.1.frozen 2
      have d0 : wr.cell? ⟨w.heap.size + 1, 0, none⟩ = some (.int .u64 bg) := HI.out.2.1.cell 0
      have d1 : wr.cell? ⟨w.heap.size + 1, 1, none⟩ = some (.int .i64 ba) := HI.out.2.1.cell 1
      have d2' : wr.cell? ⟨w.heap.size + 1, 2, none⟩ = some (.int .i64 bl) := HI.out.2.1.cell 2
      by_cases hk3 : k < 2
      · have e1 : decide ((k : Int) < 2) = true := decide_eq_true (by omega)
        have hkn : ¬ k < n := by have := Hq.out; omega
        have e1' : decide ((k : Int) < (n : Int)) = false := decide_eq_false (by omega)
        go_wp2_with fail
        exact bodyPost_ret (v := .tuple #[.agg #[.int .u64 bg, .int .i64 ba, .int .i64 bl], .int .i64 at_]) (by simp [results, Try.results38, go_sem, c0, c1, c2]) rfl ⟨by rw [Hst0.out]; rfl, ((Frm.setCell (p := ⟨w.heap.size, 0, none⟩) HI.out.2.2 (.inl (Nat.le_refl _)) _).setCell (p := ⟨w.heap.size, 1, none⟩) (.inl (Nat.le_refl _)) _).setCell (p := ⟨w.heap.size, 2, none⟩) (.inl (Nat.le_refl _)) _⟩
      · have e1 : decide ((k : Int) < 2) = false := decide_eq_false (by omega)
        go_wp2_with fail
        exact bodyPost_ret (v := .tuple #[.agg #[.int .u64 bg, .int .i64 ba, .int .i64 bl], .int .i64 at_]) (by simp [results, Try.results38, go_sem, c0, c1, c2]) rfl ⟨by rw [Hst0.out]; rfl, ((Frm.setCell (p := ⟨w.heap.size, 0, none⟩) HI.out.2.2 (.inl (Nat.le_refl _)) _).setCell (p := ⟨w.heap.size, 1, none⟩) (.inl (Nat.le_refl _)) _).setCell (p := ⟨w.heap.size, 2, none⟩) (.inl (Nat.le_refl _)) _⟩
end
end Go.Proofs.Ytdpffgcekjdneaa
