/-
  Walks: the document's disk: flush, read, new.
-/
import Derived.Test.YtdpffgcekjdneaaRefC
set_option linter.all false
namespace Go.Proofs.Ytdpffgcekjdneaa
open Go.RowKit

theorem Dk.full.crash {d : Dk} (h : d.full) : d.crash.2.full := by
  unfold Dk.crash
  split
  · exact h
  · intro p hp
    simp at hp

theorem crash_w (d : Dk) (h : d.crash.1 = false) : d.crash.2 = { d with ops := d.ops + 1 } := by
  unfold Dk.crash at h ⊢
  split at h
  · rfl
  · cases h

set_option maxRecDepth 100000 in
set_option maxHeartbeats 2000000 in
theorem ref_Flush (F G : Nat → Prop) (b : Nat) (d : Dk) (w : World) (h : RefAt w F G b d) (hok : d.ok) (hfull : d.full) :
    Calls Try.prog 23 #[.pointer (some ⟨b, 0, none⟩)] w fun e w' => e = .returned (.int .i64 d.flush.1) ∧ RefAt w' F G b d.flush.2 ∧ Frm F w w' := by
  have H := hid h
  have Hok := hid hok
  obtain ⟨vL, vw, A, c, hV⟩ := h
  have c4 : w.cell? ⟨b, 4, none⟩ = some (.bool d.down) := hV.2.1.cell 4
  have hcr := ref_begin F G b c d vL vw A w hV hfull hok.two
  have Hcr := hid hcr
  have HFu := hid hfull.crash
  clear hcr hok hfull hV
  unfold Dk.flush
  cases hd : d.down with
  | true =>
    rw [hd] at c4
    go_enter Try.func23, Try.ntmps23
    go_wp2_with fail
    go_ret
    exact ⟨rfl, H.out, Frm.refl _ _⟩
  | false =>
    rw [hd] at c4
    simp only [Bool.false_eq_true, if_false]
    cases hc : d.crash.1 with
    | true =>
      have HC := hid hc
      clear hc hd
      go_enter Try.func23, Try.ntmps23
      go_wp2_with fail
      refine Hcr.out.mono ?_
      rw [HC.out]
      rintro e w1 ⟨rfl, ⟨vW1, hA⟩, hf⟩
      have HA := hid (And.intro hA hf)
      clear hA hf
      go_wp2_with fail
      go_ret
      exact ⟨rfl, ⟨_, _, _, _, HA.out.1⟩, HA.out.2⟩
    | false =>
      have HC := hid hc
      have hdl : d.crash.2.wait.length ≤ 200000 := by
        have h1 := crash_wait_le d
        have h2 := Hok.out.2.1
        omega
      clear hc hd
      generalize hd1 : d.crash.2 = d1 at Hcr HFu hdl
      clear hd1
      go_enter Try.func23, Try.ntmps23
      go_wp2_with fail
      refine Hcr.out.mono ?_
      rw [HC.out]
      rintro e w1 ⟨rfl, ⟨vW, hA⟩, hf⟩
      obtain ⟨AL, cL, rfl⟩ := own_shape hA.2.2.1
      obtain ⟨AW, cW, rfl⟩ := own_shape hA.2.2.2.2.1
      have HA := hid (And.intro hA hf)
      clear hA hf c4
      go_wp2_with fail
      go_loopg [3] d1.wait.length (fun n i wr => ∃ j : Nat, j + n = d1.wait.length ∧ i = .int .i64 j ∧ Frm F w wr ∧ RefV wr F G b { d1 with th := standL (fun _ => true) 0 (d1.wait.take j) d1.th } (.slice AL d1.n cL) (.slice AW d1.wait.length cW) A c)
      case atStart => exact ⟨0, by omega, rfl, HA.out.2, HA.out.1⟩
      case round =>
        obtain ⟨j, hj, rfl, hFr, hVr⟩ := hrel
        have Hj := hid hj
        have HVr := hid hVr
        have HFr := hid hFr
        have f1 : wr.cell? ⟨b, 1, none⟩ = some (.slice AW d1.wait.length cW) := hVr.2.1.cell 1
        clear hj hVr hFr
        by_cases hlj : j < d1.wait.length
        · have f0 : wr.cell? ⟨b, 0, none⟩ = some (.slice AL d1.n cL) := HVr.out.2.1.cell 0
          have hst := hid (standL_take (fun _ => true) d1.wait j hlj d1.th)
          obtain ⟨hp, s, hs, hsn⟩ := HFu.out _ (List.getElem_mem hlj)
          obtain ⟨gL, gW, u, rfl, rfl, k0, k1, kL, zL, hV', hO', hFg⟩ := HVr.out.at_ (j := j) hlj hp hs hsn
          have Hst : Hid (standL (fun _ => true) 0 (List.take (j + 1) d1.wait) d1.th = updTh (standL (fun _ => true) 0 (List.take j d1.wait) d1.th) s (d1.wait[j]).2) := by
            have := hst.out
            rw [if_pos rfl, hs] at this
            exact hid this
          have k1' : wr.cell? ⟨gW, j * 2 + 1, none⟩ = some (.string (d1.wait[j]).2) := k1
          have HV' := hid hV'
          have HO' := hid hO'
          have HFg := hid hFg
          clear hst hp hs k1 hV' hO' hFg
          generalize hpp : (d1.wait[j]).2 = x at k1' HV' HO' Hst
          clear hpp
          have f0' : wr.drew.cell? ⟨b, 0, none⟩ = some (.slice (some ⟨gL, 0, none⟩) d1.n cL) := f0
          have f1' : wr.drew.cell? ⟨b, 1, none⟩ = some (.slice (some ⟨gW, 0, none⟩) d1.wait.length cW) := f1
          have k0'' : wr.drew.cell? ⟨gW, j * 2, none⟩ = some (.int .i64 s) := k0
          have k1'' : wr.drew.cell? ⟨gW, j * 2 + 1, none⟩ = some (.string x) := k1'
          have kL' : wr.drew.cell? ⟨gL, s, none⟩ = some u := kL
          have zL' : wr.drew.frozen? ⟨gL, s, none⟩ = false := zL
          go_wp2_with fail
          go_still_tail 21, (by kernel_rfl)
          change wpList _ _ _ _ _ wr.drew
          go_wp2_with fail
          go_roundg (gk - 1)
          case rel =>
            have h2 := HV'.out
            rw [← Hst.out] at h2
            exact ⟨j + 1, by have := Hj.out; omega, by go_num, (HFr.out.one HO'.out (.inr HFg.out)).drew, h2.nul ((Frm.refl _ _).drew)⟩
          case measure => have := Hj.out; omega
        · obtain rfl : j = d1.wait.length := by have := Hj.out; omega
          have z1 : wr.frozen? ⟨b, 1, none⟩ = false := HVr.out.2.1.frozen 1
          go_wp2_with fail
          go_ret
          have hV := HVr.out
          rw [List.take_length] at hV
          have hV1 := hV.upd { d1 with th := standL (fun _ => true) 0 d1.wait d1.th, wait := [] } 1 (.slice none 0 0) (.slice none 0 0) rfl rfl rfl rfl (fun w' _ => ⟨fun k hk => by simp [Value.ownBlock] at hk, World.ownsRow_nil _ _ _ _⟩)
          exact ⟨rfl, ⟨_, _, _, _, hV1⟩, HFr.out.setCell (p := ⟨b, 1, none⟩) (.inr hV.1) _⟩

set_option maxRecDepth 100000 in
set_option maxHeartbeats 2000000 in
theorem ref_Read (F G : Nat → Prop) (b : Nat) (d : Dk) (s : Int) (w : World) (h : RefAt w F G b d) (hok : d.ok) :
    Calls Try.prog 24 #[.pointer (some ⟨b, 0, none⟩), .int .i64 s] w fun e w' => e = .returned (.tuple #[.string (d.read s).1, .int .i64 (d.read s).2]) ∧ w = w' := by
  obtain ⟨vL, vw, A, c, hV⟩ := h
  obtain ⟨AL, cL, rfl⟩ := own_shape hV.2.2.1
  obtain ⟨AW, cW, rfl⟩ := own_shape hV.2.2.2.2.1
  have c4 : w.cell? ⟨b, 4, none⟩ = some (.bool d.down) := hV.2.1.cell 4
  have c0 : w.cell? ⟨b, 0, none⟩ = some (.slice AL d.n cL) := hV.2.1.cell 0
  have c1 : w.cell? ⟨b, 1, none⟩ = some (.slice AW d.wait.length cW) := hV.2.1.cell 1
  have hlw : d.wait.length ≤ 100000 := hok.2.1
  have HV := hid hV
  clear hV hok
  unfold Dk.read
  cases hd : d.down with
  | true =>
    rw [hd] at c4
    go_enter Try.func24, Try.ntmps24
    go_wp2_with fail
    go_ret2
    exact ⟨rfl, rfl⟩
  | false =>
    rw [hd] at c4
    simp only [Bool.false_eq_true, if_false]
    by_cases hs0 : s < 0
    · have hdd : decide (s < 0) = true := decide_eq_true hs0
      rw [if_pos (.inl hs0)]
      go_enter Try.func24, Try.ntmps24
      go_wp2_with fail
      go_ret2
      exact ⟨rfl, rfl⟩
    · have hdd : decide (s < 0) = false := decide_eq_false hs0
      by_cases hsn : (d.n : Int) ≤ s
      · have hdn : decide ((d.n : Int) ≤ s) = true := decide_eq_true hsn
        rw [if_pos (.inr hsn)]
        go_enter Try.func24, Try.ntmps24
        go_wp2_with fail
        go_ret2
        exact ⟨rfl, rfl⟩
      · have hdn : decide ((d.n : Int) ≤ s) = false := decide_eq_false hsn
        rw [if_neg (by omega)]
        obtain ⟨m, rfl⟩ : ∃ m : Nat, s = (m : Int) := ⟨s.toNat, by omega⟩
        have hmn : m < d.n := by omega
        obtain ⟨gL, rfl⟩ := own_str HV.out.2.2.1 hmn
        have hu : w.cell? ⟨gL, m, none⟩ = some (.string (fullS (d.th m))) := by
          have := HV.out.2.2.1.cells (g := gL) (by rfl) m _ (lCells_get d.n d.th m hmn)
          rw [Addr.add_lit, Nat.zero_add] at this
          exact this
        generalize hy : fullS (d.th m) = y at hu
        clear hy
        go_enter Try.func24, Try.ntmps24
        go_wp2_with fail
        go_loopg [4, 5, 6] d.wait.length (fun n p q i wr => ∃ (k : Nat) (v : Int), n = k ∧ k ≤ d.wait.length ∧ i = .int .i64 v ∧ v = (k : Int) - 1 ∧ p = .string ⟨#[]⟩ ∧ q = .int .i64 0 ∧ Hid (lastW m (d.wait.take k) y = lastW m d.wait y) ∧ wr = w)
        case atStart => exact ⟨d.wait.length, _, rfl, Nat.le_refl _, rfl, rfl, rfl, rfl, hid (by rw [List.take_length]), rfl⟩
        case round =>
          obtain ⟨k, v, hk, hkl, rfl, hv, rfl, rfl, hl, rfl⟩ := hrel
          cases k with
          | zero =>
            obtain rfl : v = -1 := by omega
            clear hv hk hkl
            go_wp2_with fail
            go_ret2
            have e : y = lastW (m : Int) d.wait y := hl.out
            rw [← e]
            exact ⟨rfl, rfl⟩
          | succ k =>
            obtain rfl : v = (k : Int) := by omega
            have hlt : k < d.wait.length := by omega
            obtain ⟨gW, rfl, k0, k1⟩ := own_two' HV.out.2.2.2.2.1 hlt
            have hst := lastW_take m d.wait k hlt y
            have Hst := hid hst
            have Hkl := hid hkl
            have Hk := hid hk
            clear hst hv hk hkl
            generalize hp : d.wait[k] = p at k0 k1 Hst
            clear hp
            by_cases hps : p.1 = (m : Int)
            · have hb1 : (p.1 == (m : Int)) = true := by simpa using hps
              have Hps := hid hps
              clear hps
              go_wp2_with fail
              go_ret2
              rw [← hl.out, Hst.out, if_pos Hps.out]
              exact ⟨rfl, rfl⟩
            · have hb1 : (p.1 == (m : Int)) = false := by simpa using hps
              have Hps := hid hps
              clear hps
              go_wp2_with fail
              go_roundg k
              case rel => exact ⟨k, _, rfl, by have := Hkl.out; omega, rfl, by omega, rfl, rfl, hid (by rw [← hl.out, Hst.out, if_neg Hps.out]), rfl⟩
              case measure => have := Hk.out; omega
end Go.Proofs.Ytdpffgcekjdneaa
