/-
  Walks: the document's areas.
-/
import Derived.Test.YtdpffgcekjdneaaAreaD
import Derived.Deep.RegionHeld3
set_option linter.all false
namespace Go.Proofs.Ytdpffgcekjdneaa
open Go.RowKit

section
variable {T : Nat → Prop} {B b1 b2 N : Nat} {w w' : World} {d d1 d2 : Dk}
/-- What a call of the program's disk does, beside the document's. -/
theorem Both.lift (h : Both T B w b1 b2 N d1 d2) (hT : ∀ k, w.heap.size ≤ k → T k) (hB : B ≤ w.heap.size) :
    ∃ S, DiskIn S w b1 N d1 ∧ ∀ w' N' d1', N ≤ N' → DiskIn (ext S w w') w' b1 N' d1' → Frm S w w' → Both T B w' b1 b2 N' d1' d2 ∧ Frm T w w' := by
  obtain ⟨S, F, h1, h2, h3, h4, h5, h6, h7, h8⟩ := h
  refine ⟨S, h1, fun w' N' d1' hN hD hf => ⟨⟨fun k => ext S w w' k ∧ k < w'.heap.size, F, hD.mono (fun k hk h => ⟨h, hk⟩), h2.frm hf (fun k hk hS => h3 k hS hk) (fun k hk hS => ?_), ?_, ?_, h5, h6, h7.mono hN, h8⟩, hf.mono fun k _ hk => (h4 k hk).1⟩⟩
  · have := h6 k (h4 k hS).1
    have hk' : k < B := hk
    omega
  · rintro k ⟨hk | hk, _⟩ hF
    · exact h3 k hk hF
    · have := h2.lt k hF; omega
  · rintro k ⟨hk | hk, hk2⟩
    · exact ⟨(h4 k hk).1, hk2⟩
    · exact ⟨hT k hk.1, hk2⟩
theorem Both.one (h : Both T B w b1 b2 N d1 d2) : ∃ S, DiskIn S w b1 N d1 := by
  obtain ⟨S, F, h1, _⟩ := h
  exact ⟨S, h1⟩
theorem Both.sz (h : Both T B w b1 b2 N d1 d2) : d1.okn N ∧ d2.okn N ∧ d2.full := by
  obtain ⟨S, F, h1, h2, h3, h4, h5, h6, h7, h8⟩ := h
  exact ⟨h1.sz, h7, h8⟩
theorem Both.up {M : Nat} (h : Both T B w b1 b2 N d1 d2) (hN : N ≤ M) : Both T B w b1 b2 M d1 d2 := by
  obtain ⟨S, F, h1, h2, h3, h4, h5, h6, h7, h8⟩ := h
  exact ⟨S, F, h1.up hN, h2, h3, h4, h5, h6, h7.mono hN, h8⟩

theorem bd_ARead (h : Both T B w b1 b2 N d1 d2) (hN : N ≤ 99999) (hfull : d1.full) (a len : Int) :
    Calls Try.prog 42 #[.pointer (some ⟨b1, 0, none⟩), .int .i64 a, .int .i64 len] w fun e w' => e = .returned (.tuple #[.string (d1.aread a len).1, .int .i64 (d1.aread a len).2]) ∧ Nul w w' := by
  obtain ⟨S, h1⟩ := h.one
  exact area_Read h1 (by omega) hfull a len
theorem bd_Room (h : Both T B w b1 b2 N d1 d2) :
    Calls Try.prog 46 #[.pointer (some ⟨b1, 0, none⟩)] w fun e w' => e = .returned (.int .i64 ((128 * d1.cnt : Nat) : Int)) ∧ w = w' := by
  obtain ⟨S, h1⟩ := h.one
  exact area_Room h1
theorem bd_AAppend (h : Both T B w b1 b2 N d1 d2) (hT : ∀ k, w.heap.size ≤ k → T k) (hB : B ≤ w.heap.size) (hN : N + d1.n ≤ 99999) (hfull : d1.full) (a len : Int) (s : ByteArray) :
    Calls Try.prog 41 #[.pointer (some ⟨b1, 0, none⟩), .int .i64 a, .int .i64 len, .string s] w fun e w' =>
      e = .returned (.int .i64 (d1.append a len s).1) ∧ Both T B w' b1 b2 (N + d1.n) (d1.append a len s).2 d2 ∧ Frm T w w' := by
  obtain ⟨S, h1, hl⟩ := h.lift hT hB
  refine (area_Append h1 hN hfull a len s).mono ?_
  rintro e w' ⟨rfl, hD, hf⟩
  exact ⟨rfl, hl w' _ _ (by omega) hD hf⟩

theorem br_Count (h : Both T B w b1 b2 N d1 d2) :
    Calls Try.prog 47 #[.pointer (some ⟨b2, 0, none⟩)] w fun e w' => e = .returned (.int .i64 d2.cnt) ∧ w = w' := by
  have hn : d2.n ≤ 65536 := h.sz.2.1.1
  obtain ⟨S, F, h1, ⟨vL, vW, A, c, hV⟩, _⟩ := h
  obtain ⟨AL, cL, rfl⟩ := own_shape hV.2.2.1
  have c0 : w.cell? ⟨b2, 0, none⟩ = some (.slice AL d2.n cL) := hV.2.1.cell 0
  obtain ⟨c, hc⟩ : ∃ c, c = d2.cnt := ⟨_, rfl⟩
  rw [← hc]
  unfold Dk.cnt at hc
  clear hV h1
  generalize d2.n = n at hn c0 hc
  by_cases h4 : n < 4
  · have e1 : decide ((n : Int) < 4) = true := decide_eq_true (by omega)
    obtain rfl : c = 0 := by omega
    clear hc
    go_enter Try.func47, Try.ntmps47
    go_wp2_with fail
    go_ret
    exact ⟨rfl, rfl⟩
  · have e1 : decide ((n : Int) < 4) = false := decide_eq_false (by omega)
    have hc' : ((n : Int) - 2) / 2 = (c : Int) := by omega
    have Hc := hid hc'
    have g : 0 ≤ (n : Int) - 2 := by omega
    clear hc hc'
    go_enter Try.func47, Try.ntmps47
    go_wp2_with fail
    go_ret
    exact ⟨ret_i64 Hc.out, rfl⟩

/-- What is wrong with bytes of an area of a disk that is up. -/
def Dk.chkR (d : Dk) (a len : Int) : Int := if a < 0 ∨ 1 < a ∨ d.cnt = 0 ∨ len < 0 ∨ ((128 * d.cnt : Nat) : Int) < len then 3 else 0
theorem chk_chkR (d : Dk) (a len : Int) : d.chk a len = if d.down then 12 else d.chkR a len := by
  unfold Dk.chk Dk.chkR
  congr 1
  unfold Dk.first
  by_cases h : a < 0 ∨ 1 < a ∨ d.cnt = 0
  · rw [if_pos h, if_pos (.inl (by omega)), if_pos (by omega)]
  · rw [if_neg h]
    have ha : a = 0 ∨ a = 1 := by omega
    by_cases h2 : len < 0 ∨ ((128 * d.cnt : Nat) : Int) < len
    · rw [if_pos (.inr h2), if_pos (by omega)]
    · rw [if_neg (by rcases ha with rfl | rfl <;> omega), if_neg (by omega)]

set_option maxRecDepth 100000 in
set_option maxHeartbeats 800000 in
theorem br_Check (h : Both T B w b1 b2 N d1 d2) (a len : Int) :
    Calls Try.prog 43 #[.pointer (some ⟨b2, 0, none⟩), .int .i64 a, .int .i64 len] w fun e w' => e = .returned (.int .i64 (d2.chkR a len)) ∧ w = w' := by
  have hn : d2.cnt ≤ 32768 := by have := h.sz.2.1.1; unfold Dk.cnt; omega
  have HC := hid (br_Count h)
  unfold Dk.chkR
  rw [show ((128 * d2.cnt : Nat) : Int) = 128 * (d2.cnt : Int) from by omega]
  clear h
  generalize d2.cnt = c at hn HC
  by_cases h1 : a < 0
  · have e1 : decide (a < 0) = true := decide_eq_true h1
    rw [if_pos (.inl h1)]
    go_enter Try.func43, Try.ntmps43
    go_wp2_with fail
    go_ret
    exact ⟨rfl, rfl⟩
  · have e1 : decide (a < 0) = false := decide_eq_false h1
    by_cases h2 : 1 < a
    · have e2 : decide (1 < a) = true := decide_eq_true h2
      rw [if_pos (.inr (.inl h2))]
      go_enter Try.func43, Try.ntmps43
      go_wp2_with fail
      go_ret
      exact ⟨rfl, rfl⟩
    · have e2 : decide (1 < a) = false := decide_eq_false h2
      by_cases h3 : c = 0
      · subst h3
        rw [if_pos (.inr (.inr (.inl rfl)))]
        clear h1 h2
        go_enter Try.func43, Try.ntmps43
        go_wp2_with fail
        refine HC.out.mono ?_
        rintro e w' ⟨rfl, rfl⟩
        go_wp2_with fail
        go_ret
        exact ⟨rfl, rfl⟩
      · have e3 : ((c : Int) == 0) = false := by simpa using h3
        by_cases h4 : len < 0
        · have e4 : decide (len < 0) = true := decide_eq_true h4
          rw [if_pos (.inr (.inr (.inr (.inl h4))))]
          clear h1 h2 h3 h4
          go_enter Try.func43, Try.ntmps43
          go_wp2_with fail
          refine HC.out.mono ?_
          rintro e w' ⟨rfl, rfl⟩
          go_wp2_with fail
          go_ret
          exact ⟨rfl, rfl⟩
        · have e4 : decide (len < 0) = false := decide_eq_false h4
          by_cases h5 : 128 * (c : Int) < len
          · have e5 : decide (128 * (c : Int) < len) = true := decide_eq_true h5
            rw [if_pos (.inr (.inr (.inr (.inr h5))))]
            clear h1 h2 h3 h4 h5
            go_enter Try.func43, Try.ntmps43
            go_wp2_with fail
            refine HC.out.mono ?_
            rintro e w' ⟨rfl, rfl⟩
            go_wp2_with fail
            refine HC.out.mono ?_
            rintro e w' ⟨rfl, rfl⟩
            go_wp2_with fail
            go_ret
            exact ⟨rfl, rfl⟩
          · have e5 : decide (128 * (c : Int) < len) = false := decide_eq_false h5
            rw [if_neg (by omega)]
            clear h1 h2 h3 h4 h5
            go_enter Try.func43, Try.ntmps43
            go_wp2_with fail
            refine HC.out.mono ?_
            rintro e w' ⟨rfl, rfl⟩
            go_wp2_with fail
            refine HC.out.mono ?_
            rintro e w' ⟨rfl, rfl⟩
            go_wp2_with fail
            go_ret
            exact ⟨rfl, rfl⟩
end
end Go.Proofs.Ytdpffgcekjdneaa
