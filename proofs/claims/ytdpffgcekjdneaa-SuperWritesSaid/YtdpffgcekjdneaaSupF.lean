/-
  Walks: the newest super.
-/
import Derived.Test.YtdpffgcekjdneaaSupE
import Derived.Test.YtdpffgcekjdneaaAreaP
set_option linter.all false
namespace Go.Proofs.Ytdpffgcekjdneaa
open Go.RowKit

/-- One sector more was looked at. -/
def nstep (st : Sup × Int) (i : Int) (t : ByteArray) : Sup × Int := if (supR t).2 = 0 then (if st.2 < 0 ∨ st.1.g < (supR t).1.g then ((supR t).1, i) else st) else st
/-- The newest super of the first sectors. -/
def nst (d : Dk) : Nat → Sup × Int
  | 0 => (Sup.zero, -1)
  | k + 1 => nstep (nst d k) k (d.read k).1
/-- The newest super, and where; below 0: there is none. -/
def newest (d : Dk) : Sup × Int := nst d 2

theorem supR_two (t : ByteArray) : (supR t).2 = 0 ∧ supB (supR t).1.g (supR t).1.a (supR t).1.l = true ∨ (supR t).2 = 6 ∧ (supR t).1 = Sup.zero := by
  unfold supR supOf
  by_cases h : t.size = 128 ∧ supB (supP t).g (supP t).a (supP t).l = true ∧ supS (supP t).g (supP t).a (supP t).l = t
  · rw [if_pos h]
    exact .inl ⟨rfl, h.2.1⟩
  · rw [if_neg h]
    exact .inr ⟨rfl, rfl⟩
theorem nst_in (d : Dk) : ∀ k, k ≤ 2 → ((nst d k).2 = -1 ∧ (nst d k).1 = Sup.zero) ∨ (0 ≤ (nst d k).2 ∧ (nst d k).2 < k ∧ supB (nst d k).1.g (nst d k).1.a (nst d k).1.l = true)
  | 0, _ => .inl ⟨rfl, rfl⟩
  | k + 1, h => by
    have ih := nst_in d k (by omega)
    show ((nstep (nst d k) k (d.read k).1).2 = -1 ∧ (nstep (nst d k) k (d.read k).1).1 = Sup.zero) ∨ (0 ≤ (nstep (nst d k) k (d.read k).1).2 ∧ (nstep (nst d k) k (d.read k).1).2 < (k + 1 : Nat) ∧ supB (nstep (nst d k) k (d.read k).1).1.g (nstep (nst d k) k (d.read k).1).1.a (nstep (nst d k) k (d.read k).1).1.l = true)
    unfold nstep
    rcases supR_two (d.read k).1 with ⟨h1, h2⟩ | ⟨h1, h2⟩
    · rw [if_pos h1]
      split
      · exact .inr ⟨by simp, by simp; omega, h2⟩
      · rename_i hn
        rcases ih with ⟨i1, i2⟩ | ⟨i1, i2, i3⟩
        · exact absurd (.inl (by omega)) hn
        · exact .inr ⟨i1, by omega, i3⟩
    · rw [if_neg (by rw [h1]; decide)]
      rcases ih with ih | ⟨i1, i2, i3⟩
      · exact .inl ih
      · exact .inr ⟨i1, by omega, i3⟩

theorem read_size_le {d : Dk} {N : Nat} (hok : d.okn N) (s : Int) : (d.read s).1.size ≤ 128 := by
  unfold Dk.read
  split
  · decide
  · split
    · decide
    · have : ∀ (l : List (Int × ByteArray)) (x : ByteArray), x.size ≤ 128 → (∀ p ∈ l, p.2.size ≤ 128) → (lastW s l x).size ≤ 128 := by
        intro l
        induction l with
        | nil => intro x hx _; exact hx
        | cons p l ih =>
          intro x hx h
          show (lastW s l (if p.1 = s then p.2 else x)).size ≤ 128
          refine ih _ ?_ (fun q hq => h q (List.mem_cons_of_mem _ hq))
          split
          · exact h p (List.mem_cons_self ..)
          · exact hx
      exact this d.wait _ (Nat.le_of_eq (fullS_size _ (hok.2.2.2.2.1 s))) hok.2.2.2.2.2.1
theorem read_err {d : Dk} (hd : d.down = false) (s : Int) : (d.read s).2 = 0 ∨ (d.read s).2 = 3 := by
  unfold Dk.read
  rw [hd, if_neg (by decide)]
  split
  · exact .inr rfl
  · exact .inl rfl

/-- What the program's 'Newest' answers. -/
def newR (d : Dk) : Sup × Int × Int := if d.down then (Sup.zero, 0, 12) else if (newest d).2 < 0 then (Sup.zero, 0, 7) else ((newest d).1, (newest d).2, 0)

section
variable {S : Nat → Prop} {w : World} {b N : Nat} {d : Dk}
set_option maxRecDepth 100000 in
set_option maxHeartbeats 2000000 in
theorem sup_Newest_up (h : DiskIn S w b N d) (hN : N ≤ 100000) (hd : d.down = false) :
    Calls Try.prog 36 #[.pointer (some ⟨b, 0, none⟩)] w fun e w' => e = .returned (.tuple #[supV (newR d).1, .int .i64 (newR d).2.1, .int .i64 (newR d).2.2]) ∧ Nul w w' := by
  have H := hid h
  have Hd := hid hd
  clear h hd
  go_enter Try.func36, Try.ntmps36
  go_wp2_with fail
  go_loopg [6, 7, 8, 9, 10, 11, 12] 2 (fun m at_ _ _ _ _ _ r wr => ∃ k : Nat, k + m = 2 ∧ r = .int .i64 k ∧ at_ = .int .i64 (nst d k).2 ∧ Blk wr w.heap.size 53 [.int .u64 0, .int .i64 0, .int .i64 0] ∧ Blk wr (w.heap.size + 1) 53 [.int .u64 (nst d k).1.g, .int .i64 (nst d k).1.a, .int .i64 (nst d k).1.l] ∧ Nul w wr)
  case atStart => exact ⟨0, by omega, rfl, rfl, (Blk.new w 53 [.int .u64 0, .int .i64 0, .int .i64 0]).alloc _, Blk.new_at (w.alloc (.cells #[.int .u64 0, .int .i64 0, .int .i64 0] 53)) 53 [.int .u64 0, .int .i64 0, .int .i64 0] (by simp), ((Frm.refl _ w).alloc _).alloc _⟩
  case round =>
    obtain ⟨k, hk, rfl, rfl, hR, hB, hf⟩ := hrel
    have Hk := hid hk
    have HI := hid (And.intro hR (And.intro hB hf))
    have Hst : Hid (∃ st, nst d k = st ∧ nst d (k + 1) = nstep st k (d.read k).1 ∧ ((st.2 = -1 ∧ st.1 = Sup.zero) ∨ (0 ≤ st.2 ∧ st.2 < k ∧ supB st.1.g st.1.a st.1.l = true))) := hid ⟨_, rfl, rfl, nst_in d k (by omega)⟩
    clear hk hR hB hf
    obtain ⟨st, hst, hst1, hsti⟩ := Hst.out
    rw [hst] at HI ⊢
    obtain ⟨⟨bg, ba, bl⟩, at_⟩ := st
    have Hst1 := hid hst1
    have Hsti := hid hsti
    have Hst0 := hid hst
    clear hst hst1 hsti Hst
    by_cases hlt : k < 2
    · have e1 : decide ((k : Int) < 2) = true := decide_eq_true (by omega)
      have HRd := hid (in_Read (H.out.nul HI.out.2.2) hN k)
      have htz : (d.read k).1.size ≤ 140737488351232 := Nat.le_trans (read_size_le H.out.sz k) (by omega)
      have hee := read_err Hd.out k
      generalize d.read k = rd at HRd htz hee Hst1
      obtain ⟨t, e⟩ := rd
      have g1 : (e == 1) = false := by
        rcases hee with h | h <;> (simp at h; rw [h]; decide)
      have g2 : (e == 12) = false := by
        rcases hee with h | h <;> (simp at h; rw [h]; decide)
      have HG := hid (fun w => sup_Get t w htz)
      have h2 := hid (supR_two t)
      unfold nstep at Hst1
      generalize supR t = x at HG h2 Hst1
      obtain ⟨⟨sg, sa, sl⟩, e2⟩ := x
      simp only [supV] at HG
      clear hee htz
      go_wp2_with fail
      refine HRd.out.mono ?_
      rintro r w1 ⟨rfl, hf1⟩
      have HI1 := hid (And.intro (HI.out.1.nul hf1) (And.intro (HI.out.2.1.nul hf1) (HI.out.2.2.nul hf1)))
      clear hf1
      go_wp2_with fail
      refine (HG.out _).mono ?_
      rintro r w2 ⟨rfl, hf2⟩
      have HI2 := hid (And.intro (HI1.out.1.nul hf2) (And.intro (HI1.out.2.1.nul hf2) (HI1.out.2.2.nul hf2)))
      have d0 : w2.cell? ⟨w.heap.size + 1, 0, none⟩ = some (.int .u64 bg) := HI2.out.2.1.cell 0
      have d1 : w2.cell? ⟨w.heap.size + 1, 1, none⟩ = some (.int .i64 ba) := HI2.out.2.1.cell 1
      have d2 : w2.cell? ⟨w.heap.size + 1, 2, none⟩ = some (.int .i64 bl) := HI2.out.2.1.cell 2
      have z0 : w2.frozen? ⟨w.heap.size + 1, 0, none⟩ = false := HI2.out.2.1.frozen 0
      have z1 : w2.frozen? ⟨w.heap.size + 1, 1, none⟩ = false := HI2.out.2.1.frozen 1
      have z2 : w2.frozen? ⟨w.heap.size + 1, 2, none⟩ = false := HI2.out.2.1.frozen 2
      have zl : w.heap.size + 1 < w2.heap.size := HI2.out.2.1.lt
      clear hf2
      by_cases he2 : e2 = 0
      · subst he2
        by_cases hat : at_ < 0
        · have e3 : decide (at_ < 0) = true := decide_eq_true hat
          go_wp2_with fail
          have hn : nst d (k + 1) = (⟨sg, sa, sl⟩, (k : Int)) := by rw [Hst1.out, if_pos True.intro, if_pos (.inl hat)]
          go_roundg (gk - 1)
          case rel =>
            refine ⟨k + 1, by have := Hk.out; omega, by go_num, by rw [hn], ?_, ?_, ?_⟩
            · exact (((HI2.out.1.far (by simp) _).far (by simp) _).far (by simp) _).alloc _
            · rw [hn]
              exact (((HI2.out.2.1.put 0 (.int .u64 sg)).put 1 (.int .i64 sa)).put 2 (.int .i64 sl)).alloc _
            · exact (((HI2.out.2.2.setCell (p := ⟨w.heap.size + 1, 0, none⟩) (.inl (by simp)) _).setCell (p := ⟨w.heap.size + 1, 1, none⟩) (.inl (by simp)) _).setCell (p := ⟨w.heap.size + 1, 2, none⟩) (.inl (by simp)) _).alloc _
          case measure => have := Hk.out; omega
        · have e3 : decide (at_ < 0) = false := decide_eq_false hat
          by_cases hg : bg < sg
          · have e4 : decide (bg < sg) = true := decide_eq_true hg
            go_wp2_with fail
            have hn : nst d (k + 1) = (⟨sg, sa, sl⟩, (k : Int)) := by rw [Hst1.out, if_pos True.intro, if_pos (.inr hg)]
            go_roundg (gk - 1)
            case rel =>
              refine ⟨k + 1, by have := Hk.out; omega, by go_num, by rw [hn], ?_, ?_, ?_⟩
              · exact (((HI2.out.1.far (by simp) _).far (by simp) _).far (by simp) _).alloc _
              · rw [hn]
                exact (((HI2.out.2.1.put 0 (.int .u64 sg)).put 1 (.int .i64 sa)).put 2 (.int .i64 sl)).alloc _
              · exact (((HI2.out.2.2.setCell (p := ⟨w.heap.size + 1, 0, none⟩) (.inl (by simp)) _).setCell (p := ⟨w.heap.size + 1, 1, none⟩) (.inl (by simp)) _).setCell (p := ⟨w.heap.size + 1, 2, none⟩) (.inl (by simp)) _).alloc _
            case measure => have := Hk.out; omega
          · have e4 : decide (bg < sg) = false := decide_eq_false hg
            have Hng : Hid (¬ (at_ < 0 ∨ bg < sg)) := hid (by omega)
            go_wp2_with fail
            have hn : nst d (k + 1) = (⟨bg, ba, bl⟩, at_) := by rw [Hst1.out, if_pos True.intro, if_neg Hng.out]
            go_roundg (gk - 1)
            case rel =>
              refine ⟨k + 1, by have := Hk.out; omega, by go_num, by rw [hn], HI2.out.1.alloc _, ?_, HI2.out.2.2.alloc _⟩
              rw [hn]
              exact HI2.out.2.1.alloc _
            case measure => have := Hk.out; omega
      · have e3 : (e2 == 0) = false := by simpa using he2
        have He2 := hid he2
        clear he2
        go_wp2_with fail
        have hn : nst d (k + 1) = (⟨bg, ba, bl⟩, at_) := by rw [Hst1.out, if_neg He2.out]
        go_roundg (gk - 1)
        case rel =>
          refine ⟨k + 1, by have := Hk.out; omega, by go_num, by rw [hn], HI2.out.1.alloc _, ?_, HI2.out.2.2.alloc _⟩
          rw [hn]
          exact HI2.out.2.1.alloc _
        case measure => have := Hk.out; omega
    · obtain rfl : k = 2 := by have := Hk.out; omega
      have e1 : decide ((2 : Int) < 2) = false := by decide
      have hnw : newest d = (⟨bg, ba, bl⟩, at_) := Hst0.out
      have c0 : wr.cell? ⟨w.heap.size, 0, none⟩ = some (.int .u64 0) := HI.out.1.cell 0
      have c1 : wr.cell? ⟨w.heap.size, 1, none⟩ = some (.int .i64 0) := HI.out.1.cell 1
      have c2 : wr.cell? ⟨w.heap.size, 2, none⟩ = some (.int .i64 0) := HI.out.1.cell 2
      have f0 : wr.frozen? ⟨w.heap.size, 0, none⟩ = false := HI.out.1.frozen 0
      have f1 : wr.frozen? ⟨w.heap.size, 1, none⟩ = false := HI.out.1.frozen 1
      have f2 : wr.frozen? ⟨w.heap.size, 2, none⟩ = false := HI.out.1.frozen 2
      have d0 : wr.cell? ⟨w.heap.size + 1, 0, none⟩ = some (.int .u64 bg) := HI.out.2.1.cell 0
      have d1 : wr.cell? ⟨w.heap.size + 1, 1, none⟩ = some (.int .i64 ba) := HI.out.2.1.cell 1
      have d2 : wr.cell? ⟨w.heap.size + 1, 2, none⟩ = some (.int .i64 bl) := HI.out.2.1.cell 2
      by_cases hat : at_ < 0
      · have e3 : decide (at_ < 0) = true := decide_eq_true hat
        have hres := hid (show newR d = (Sup.zero, 0, 7) from by unfold newR; rw [Hd.out, if_neg (by decide), hnw, if_pos hat])
        clear hnw
        go_wp2_with fail
        exact bodyPost_ret (v := .tuple #[.agg #[.int .u64 0, .int .i64 0, .int .i64 0], .int .i64 0, .int .i64 7]) (by simp [results, Try.results36, go_sem, c0, c1, c2]) rfl ⟨by rw [hres.out]; rfl, ((Frm.setCell (p := ⟨w.heap.size, 0, none⟩) HI.out.2.2 (.inl (Nat.le_refl _)) _).setCell (p := ⟨w.heap.size, 1, none⟩) (.inl (Nat.le_refl _)) _).setCell (p := ⟨w.heap.size, 2, none⟩) (.inl (Nat.le_refl _)) _⟩
      · have e3 : decide (at_ < 0) = false := decide_eq_false hat
        have hres := hid (show newR d = (⟨bg, ba, bl⟩, at_, 0) from by unfold newR; rw [Hd.out, if_neg (by decide), hnw, if_neg hat])
        clear hnw
        go_wp2_with fail
        exact bodyPost_ret (v := .tuple #[.agg #[.int .u64 bg, .int .i64 ba, .int .i64 bl], .int .i64 at_, .int .i64 0]) (by simp [results, Try.results36, go_sem, c0, c1, c2]) rfl ⟨by rw [hres.out]; rfl, ((Frm.setCell (p := ⟨w.heap.size, 0, none⟩) HI.out.2.2 (.inl (Nat.le_refl _)) _).setCell (p := ⟨w.heap.size, 1, none⟩) (.inl (Nat.le_refl _)) _).setCell (p := ⟨w.heap.size, 2, none⟩) (.inl (Nat.le_refl _)) _⟩

set_option maxRecDepth 100000 in
set_option maxHeartbeats 1000000 in
theorem sup_Newest_down (h : DiskIn S w b N d) (hN : N ≤ 100000) (hd : d.down = true) :
    Calls Try.prog 36 #[.pointer (some ⟨b, 0, none⟩)] w fun e w' => e = .returned (.tuple #[supV (newR d).1, .int .i64 (newR d).2.1, .int .i64 (newR d).2.2]) ∧ Nul w w' := by
  have H := hid h
  have hres := hid (show newR d = (Sup.zero, 0, 12) from by unfold newR; rw [hd, if_pos rfl])
  have hrd := hid (show ∀ s, d.read s = (⟨#[]⟩, 12) from fun s => by unfold Dk.read; rw [hd, if_pos rfl]; rfl)
  clear h hd
  go_enter Try.func36, Try.ntmps36
  go_wp2_with fail
  go_loopg [6, 7, 8, 9, 10, 11, 12] 0 (fun m at_ _ _ _ _ _ r wr => m = 0 ∧ r = .int .i64 0 ∧ Blk wr w.heap.size 53 [.int .u64 0, .int .i64 0, .int .i64 0] ∧ Nul w wr)
  case atStart => exact ⟨rfl, rfl, (Blk.new w 53 [.int .u64 0, .int .i64 0, .int .i64 0]).alloc _, ((Frm.refl _ w).alloc _).alloc _⟩
  case round =>
    obtain ⟨rfl, rfl, hR, hf⟩ := hrel
    have HI := hid (And.intro hR hf)
    clear hR hf
    have HRd := hid (in_Read (H.out.nul HI.out.2) hN 0)
    rw [hrd.out] at HRd
    go_wp2_with fail
    refine HRd.out.mono ?_
    rintro r w1 ⟨rfl, hf1⟩
    have HI1 := hid (And.intro (HI.out.1.nul hf1) (HI.out.2.nul hf1))
    clear hf1
    have c0 : w1.cell? ⟨w.heap.size, 0, none⟩ = some (.int .u64 0) := HI1.out.1.cell 0
    have c1 : w1.cell? ⟨w.heap.size, 1, none⟩ = some (.int .i64 0) := HI1.out.1.cell 1
    have c2 : w1.cell? ⟨w.heap.size, 2, none⟩ = some (.int .i64 0) := HI1.out.1.cell 2
    have f0 : w1.frozen? ⟨w.heap.size, 0, none⟩ = false := HI1.out.1.frozen 0
    have f1 : w1.frozen? ⟨w.heap.size, 1, none⟩ = false := HI1.out.1.frozen 1
    have f2 : w1.frozen? ⟨w.heap.size, 2, none⟩ = false := HI1.out.1.frozen 2
    go_wp2_with fail
    exact bodyPost_ret (v := .tuple #[.agg #[.int .u64 0, .int .i64 0, .int .i64 0], .int .i64 0, .int .i64 12]) (by simp [results, Try.results36, go_sem, c0, c1, c2]) rfl ⟨by rw [hres.out]; rfl, ((Frm.setCell (p := ⟨w.heap.size, 0, none⟩) HI1.out.2 (.inl (Nat.le_refl _)) _).setCell (p := ⟨w.heap.size, 1, none⟩) (.inl (Nat.le_refl _)) _).setCell (p := ⟨w.heap.size, 2, none⟩) (.inl (Nat.le_refl _)) _⟩

theorem sup_Newest (h : DiskIn S w b N d) (hN : N ≤ 100000) :
    Calls Try.prog 36 #[.pointer (some ⟨b, 0, none⟩)] w fun e w' => e = .returned (.tuple #[supV (newR d).1, .int .i64 (newR d).2.1, .int .i64 (newR d).2.2]) ∧ Nul w w' := by
  cases hd : d.down with
  | true => exact sup_Newest_down h hN hd
  | false => exact sup_Newest_up h hN hd
end
end Go.Proofs.Ytdpffgcekjdneaa
